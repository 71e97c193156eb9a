/- What is proved: operations that a vault needs: interface values and calls through them, slices of arrays, arrays and records compared, texts appended. Over any program. -/
import Derived.Test.YtfhalnobaeogkaaDoorFwFour
import Derived.Test.YtfhalnobaeogkaaDoorFwTok
import Derived.Test.YtfhalnobaeogkaaDoorFwPkt
import Derived.Test.YtfhalnobaeogkaaDoorFwApp
import Derived.Laws.StructEq
import Derived.Laws.Build
set_option linter.unusedVariables false
set_option linter.unusedSimpArgs false
namespace Go.Fw
open Go Go.RowKit
section
variable {P : Program} {N : Nat} {a : Act} {w w0 : World} {m : List (Nat × Value)} {H : List Ent} {o : Oper} {ops : Array Oper} {K : Act → World → Prop} {Q : Exit → Act → World → Prop} {x y : Operand} {t t' u e : TypeId}
/-! ### Interface values -/
theorem gv_makeIface {v : Value} (ho : o.op = .makeInterface t x) (hc : P.concrete t = true) (hx : a.eval x = v) : Gv P o a w (.iface t v) := by
  simp [Gv, execOp, ho, hx, run_makeInterface w t v hc]
/-- The method of a pointer type, by its name. -/
structure MethOk (P : Program) (t : TypeId) (name : String) (f : FuncId) : Prop where
  row : ((P.info? t).bind (fun i => i.methods.find? (·.name == name))).map (fun m => (m.path.toList, m.func)) = some ([], some (f, true))
  und : (match P.underlying t with | some (.pointer _) => true | _ => false) = true
  ok : CallOk P f
theorem run_method {name : String} {f : FuncId} (h : MethOk P t name f) (n : Nat) (v : Value) (w : World) : (method (n + 1) t v name).run P w = .ok (f, v) w := by
  obtain ⟨mm, h1, h2⟩ := Option.map_eq_some_iff.1 h.row
  obtain ⟨i, hi, hf⟩ := Option.bind_eq_some_iff.1 h1
  simp only [Prod.mk.injEq] at h2
  obtain ⟨hp, hfn⟩ := h2
  have hu := h.und
  cases hd : P.underlying t with
  | none => rw [hd] at hu; cases hu
  | some d =>
    rw [hd] at hu
    cases d <;> first | (cases hu; done) | skip
    simp [method, typeInfo, hi, hf, hp, hfn, follow, receiverAt, run_und hd, Place.get]
theorem run_invokeOp {name : String} {f : FuncId} {xs : List Operand} {vs : List Value} {ats : Array TypeId} {v : Value} (hm : MethOk P t name f) (ho : o.op = .call { callee := .invoke x name, args := xs.toArray, argTypes := ats }) (hr : a.eval x = .iface t v) (hx : Evs a xs vs) :
    (execOp a.eval o).run P w = .ok (.enter f (v :: vs).toArray) w := by
  obtain ⟨n, hn⟩ : ∃ n, P.types.size + Made.depth = n + 1 := ⟨P.types.size + 99, rfl⟩
  unfold execOp
  rw [ho]
  have hmap := hx.map
  simp [resolve, invoke, callMethod, run_program, hr, hmap, hn, run_method hm, run_callFunc hm.ok]
theorem stp_callI {name : String} {f : FuncId} {xs : List Operand} {vs : List Value} {ats : Array TypeId} {v : Value} {R : Ending → World → Prop} (hF : Fr N a m) (hw : Region.wanted o (yielded ops a.tmps) = true) {d : Nat} (hd : o.dst = some d) (hN : Nat.blt d N = true) (hm : MethOk P t name f)
    (ho : o.op = .call { callee := .invoke x name, args := xs.toArray, argTypes := ats }) (hr : a.eval x = .iface t v) (hx : Evs a xs vs) (hc : Calls P f (v :: vs).toArray w R)
    (h : ∀ e w', R e w' → ∃ v, e = .returned v ∧ ∀ a', Fr N a' ((d, v) :: m) → K a' w') : Stp P ops Q o a w K := by
  refine stp_wp hw ?_
  unfold Oper.wp
  rw [run_invokeOp hm ho hr hx]
  refine Calls.mono hc fun e w' hr => ?_
  obtain ⟨v, rfl, hk⟩ := h e w' hr
  show K (a.put o.dst v) w'
  rw [hd]
  exact hk _ (hF.put v hN)
theorem dw_callI {fl : List Nat} {KK : Act → Prop} {i : Nat} {rest : List Oper} {name : String} {f : FuncId} {xs : List Operand} {vs : List Value} {ats : Array TypeId} {r : Value} (hF : Fr N a m) (hfl : fl.contains i = false) (hw : Region.wanted o (yielded ops a.tmps) = true) {d : Nat} {v : Value} (hd : o.dst = some d) (hN : Nat.blt d N = true) (hm : MethOk P t name f)
    (ho : o.op = .call { callee := .invoke x name, args := xs.toArray, argTypes := ats }) (hr : a.eval x = .iface t r) (hx : Evs a xs vs) (hc : ∀ w', Ext w w' → Calls P f (r :: vs).toArray w' fun e w'' => e = .returned v ∧ Ext w' w'')
    (h : ∀ a', Fr N a' ((d, v) :: m) → dwalk P ops w fl KK (i + 1) rest a') : dwalk P ops w fl KK i (o :: rest) a := by
  unfold dwalk
  rw [if_neg (by simpa using hfl)]
  exact .inl ⟨hw, v, fun w' hx' => .inr (.inr ⟨f, _, run_invokeOp hm ho hr hx, hc w' hx'⟩), by rw [hd]; exact h _ (hF.put v hN)⟩
/-! ### Slices of arrays -/
theorem madeCells_rep (cs : Array Value) (z : Value) (sz k : Nat) (h0 : 0 < sz) (h : cs = (List.replicate sz z).toArray) : madeCells cs k = (List.replicate k z).toArray := by
  subst h
  apply Array.ext
  · simp [madeCells]
  · intro i h1 h2
    have : i % sz < sz := Nat.mod_lt _ h0
    simp [madeCells, this]
theorem run_makeN {z u : Value} {sz by_ n : Nat} (ho : o.op = .makeSlice t x y) (ht : P.underlying t = some (.slice e)) (hy : Ty P e z sz by_) (hz : z.cells = (List.replicate sz u).toArray) (h0 : 0 < sz) (hx : a.eval x = vI n) (hx' : a.eval y = vI n) (hb : by_ * n ≤ 140737488355328) (hn : n ≤ 140737488355328) :
    (execOp a.eval o).run P w = .ok (.value (.slice (some ⟨w.heap.size, 0, none⟩) n n)) (w.alloc (blk e (List.replicate (n * sz) u))) := by
  obtain ⟨i, hi, h1, h2, h3⟩ := hy.get
  unfold execOp
  rw [ho]
  have hh : ((i.bytes : Int) * (n : Int)) = ((by_ * n : Nat) : Int) := by rw [h3]; exact (Int.natCast_mul _ _).symm
  have hr := run_make (P := P) w t e i z ht hi h1 .i64 .i64 n n (by omega) (by omega) (by rw [hh]; omega) (by omega)
  simp [hx, hx', vI, hr, blk, h2, madeCells_rep _ u sz _ h0 hz]
theorem stp_makeN {z u : Value} {sz by_ n : Nat} {d : Nat} (hF : Fr N a m) (hw : Region.wanted o (yielded ops a.tmps) = true) (hd : o.dst = some d) (hN : Nat.blt d N = true) (ho : o.op = .makeSlice t x y) (ht : P.underlying t = some (.slice e)) (hy : Ty P e z sz by_) (hz : z.cells = (List.replicate sz u).toArray) (h0 : 0 < sz)
    (hx : a.eval x = vI n) (hx' : a.eval y = vI n) (hb : by_ * n ≤ 140737488355328) (hn : n ≤ 140737488355328) (hS : St w0 w H)
    (h : ∀ b a' w', Fr N a' ((d, .slice (some ⟨b, 0, none⟩) n n) :: m) → St w0 w' (⟨true, some b, blk e (List.replicate (n * sz) u)⟩ :: H) → K a' w') : Stp P ops Q o a w K :=
  stp_val hF hw hd hN (run_makeN ho ht hy hz h0 hx hx' hb hn) fun a' hF' => h _ a' _ hF' (hS.alloc _)
/-- append(nil, y...) of rows of arrays: a new block. -/
theorem stp_appNilN {z : Value} {sz by_ n c b o' d : Nat} {news : List Value} (hF : Fr N a m) (hw : Region.wanted o (yielded ops a.tmps) = true) (hd : o.dst = some d) (hN : Nat.blt d N = true)
    (ho : o.op = .call { callee := .builtin .append, args := #[x, y], argTypes := #[t, t] }) (ht : P.underlying t = some (.slice e)) (hty : Ty P e z sz by_)
    (hx : a.eval x = .slice none 0 0) (hy : a.eval y = .slice (some ⟨b, o', none⟩) n c) (hl : news.length = n * sz) (hc : ∀ j u, news[j]? = some u → w.cell? ⟨b, o' + j, none⟩ = some u) (h0 : 0 < n) (hn : n ≤ 140737488355328) (hb : n * by_ ≤ 140737488355328) (hS : St w0 w H)
    (h : ∀ b c pad a' w', Fr N a' ((d, .slice (some ⟨b, 0, none⟩) n c) :: m) → n ≤ c → c ≤ 9223372036854775807 → St w0 w' (⟨true, some b, blk e (news ++ pad)⟩ :: H) → K a' w') : Stp P ops Q o a w K := by
  obtain ⟨i, hi, h1, h2, h3⟩ := hty.get
  have hr := run_append_nil (P := P) w t o.type e i z ht hi h1 ⟨b, o', none⟩ n c news (by rw [h2]; exact hl) (fun j u hu => by rw [add_lit]; exact hc j u hu) h0 (by omega) (by rw [h3]; omega)
  have hge := grownCap_ge w n 0 e
  have hle := grownCap_le_maxLen w n 0 e (by simp only [maxLen]; omega)
  refine stp_val hF hw hd hN (run_appendOp ho hx hy hr) fun a' hF' => h w.heap.size _ (Builtin.zeroCells z.cells (grownCap w n 0 e - n)).toList a' _ hF' hge (by simpa [maxLen] using hle) ?_
  refine hS.float (w' := w.drew.alloc _) ⟨rfl, rfl, rfl, by simp, fun j hj => heap_alloc_old w.drew _ hj⟩ (Nat.le_refl _) ((heap_alloc_new w.drew _).trans ?_)
  simp [blk]
/-! ### Arrays and records compared -/
theorem gv_aggNeq {l l' : List UInt8} {n : Nat} (ho : o.op = .binOp .neq t x y t') (ht : P.underlying t = some (.array n e)) (he : P.underlying e = some (.int .u8)) (hz : (P.info? e).map (·.size) = some 1) (hq : P.eqGuardType P.depth t = false) (hx : a.eval x = .agg (l.map vB).toArray) (hy : a.eval y = .agg (l'.map vB).toArray) (h1 : l.length = n) (h2 : l'.length = n) : Gv P o a w (.bool (decide (l ≠ l'))) := by
  have hg : (eqGuard .neq t x y (.agg (l.map vB).toArray) (.agg (l'.map vB).toArray)).run P w = .ok () w := by
    simp [eqGuard, hq]
  have h' : (binOp .neq t (.agg (l.map vB).toArray) (.agg (l'.map vB).toArray)).run P w = .ok (.bool (!(l == l'))) w := by
    rw [run_neq_struct]
    have := run_equalIn_bytes (P := P) w 9998 t e n ht he (fun w => run_sizeOf hz w) l l' h1 h2
    show ((Op.equalIn (9998 + 2) t (.agg (l.map vB).toArray) (.agg (l'.map vB).toArray)).run P w).andThen _ = _
    exact (congrArg (fun r => Result.andThen r _) this).trans rfl
  have hb : (!(l == l')) = decide (l ≠ l') := by rw [beqd, decide_not]
  simp [Gv, execOp, ho, hx, hy, hg, h', hb]

/-- Records of two texts and a truth. -/
structure Rec3 (P : Program) (t s b : TypeId) : Prop where
  und : P.underlying t = some (.struct (P.fieldsOf t))
  fs : (P.fieldsOf t).toList.map (fun f => (f.name == "_", f.type, f.offset)) = [(false, s, 0), (false, s, 1), (false, b, 2)]
  held : P.stoodInHeld t = false
  str : P.underlying s = some .string
  tru : P.underlying b = some .bool
  guard : P.eqGuardType P.depth t = false
def recV (a b : List UInt8) (p : Bool) : Value := .agg #[sV a, sV b, .bool p]
theorem run_part1 {t : TypeId} {d : TypeDesc} {cs : Array Value} {i : Nat} {v : Value} (ht : P.underlying t = some d) (hd : (match d with | .struct _ | .array _ _ => true | _ => false) = false) (hv : cs[i]? = some v) : (part t cs i).run P w = .ok v w := by
  simp [part, run_isAgg_false ht hd, hv]
theorem run_eqRec {t s b : TypeId} (h : Rec3 P t s b) (a1 b1 a2 b2 : List UInt8) (p1 p2 : Bool) : (Op.equalIn 10000 t (recV a1 b1 p1) (recV a2 b2 p2)).run P w = .ok (decide (a1 = a2 ∧ b1 = b2 ∧ p1 = p2)) w := by
  have hS : ∀ (l l' : List UInt8), (Op.equalIn 9999 s (sV l) (sV l')).run P w = .ok (decide (l = l')) w := fun l l' => by
    have := run_equalIn_string (P := P) w 9998 s ⟨l.toArray⟩ ⟨l'.toArray⟩ h.str
    rw [sV_toList, sV_toList, beqd] at this
    exact this
  have hB : (Op.equalIn 9999 b (.bool p1) (.bool p2)).run P w = .ok (decide (p1 = p2)) w := by
    have := run_equalIn_bool' (P := P) w 9998 b p1 p2 h.tru
    rw [show (p1 == p2) = decide (p1 = p2) by cases p1 <;> cases p2 <;> rfl] at this
    exact this
  show (Op.equalIn (9999 + 1) t (.agg _) (.agg _)).run P w = _
  rw [run_equalIn_struct w 9999 t _ _ h.und h.held]
  have hf := h.fs
  cases hl : (P.fieldsOf t).toList with
  | nil => rw [hl] at hf; simp at hf
  | cons f1 r1 =>
    cases r1 with
    | nil => rw [hl] at hf; simp at hf
    | cons f2 r2 =>
      cases r2 with
      | nil => rw [hl] at hf; simp at hf
      | cons f3 r3 =>
        cases r3 with
        | cons f4 r4 => rw [hl] at hf; simp at hf
        | nil =>
          rw [hl] at hf
          simp only [List.map_cons, List.map_nil, List.cons.injEq, Prod.mk.injEq, and_true] at hf
          obtain ⟨⟨n1, t1, o1⟩, ⟨n2, t2, o2⟩, ⟨n3, t3, o3⟩⟩ := hf
          have m1 : f1.name ≠ "_" := by simpa using n1
          have m2 : f2.name ≠ "_" := by simpa using n2
          have m3 : f3.name ≠ "_" := by simpa using n3
          have ps : ∀ (cs : Array Value) (i : Nat) (v : Value), cs[i]? = some v → (part s cs i).run P w = .ok v w := fun cs i v hv => run_part1 h.str rfl hv
          have pb : ∀ (cs : Array Value) (i : Nat) (v : Value), cs[i]? = some v → (part b cs i).run P w = .ok v w := fun cs i v hv => run_part1 h.tru rfl hv
          simp only [Op.eqFields, if_pos m1, if_pos m2, if_pos m3, t1, o1, t2, o2, t3, o3, Sem.run_bind]
          rw [ps #[sV a1, sV b1, .bool p1] 0 (sV a1) rfl]
          simp only [Result.andThen_ok]
          rw [ps #[sV a2, sV b2, .bool p2] 0 (sV a2) rfl]
          simp only [Result.andThen_ok, hS]
          by_cases ha : a1 = a2
          · rw [decide_eq_true ha]
            simp only [Bool.not_true, Bool.false_eq_true, if_false, Sem.run_bind]
            rw [ps #[sV a1, sV b1, .bool p1] 1 (sV b1) rfl]
            simp only [Result.andThen_ok]
            rw [ps #[sV a2, sV b2, .bool p2] 1 (sV b2) rfl]
            simp only [Result.andThen_ok, hS]
            by_cases hb : b1 = b2
            · rw [decide_eq_true hb]
              simp only [Bool.not_true, Bool.false_eq_true, if_false, Sem.run_bind]
              rw [pb #[sV a1, sV b1, .bool p1] 2 (.bool p1) rfl]
              simp only [Result.andThen_ok]
              rw [pb #[sV a2, sV b2, .bool p2] 2 (.bool p2) rfl]
              simp only [Result.andThen_ok, hB]
              by_cases hp : p1 = p2
              · rw [decide_eq_true hp, decide_eq_true ⟨ha, hb, hp⟩]
                simp
              · rw [decide_eq_false hp, decide_eq_false (fun h => hp h.2.2)]
                simp
            · rw [decide_eq_false hb, decide_eq_false (fun h => hb h.2.1)]
              simp
          · rw [decide_eq_false ha, decide_eq_false (fun h => ha h.1)]
            simp
theorem gv_recEql {s b : TypeId} {a1 b1 a2 b2 : List UInt8} {p1 p2 : Bool} (h : Rec3 P t s b) (ho : o.op = .binOp .eql t x y t') (hx : a.eval x = recV a1 b1 p1) (hy : a.eval y = recV a2 b2 p2) : Gv P o a w (.bool (decide (a1 = a2 ∧ b1 = b2 ∧ p1 = p2))) := by
  have hg : (eqGuard .eql t x y (recV a1 b1 p1) (recV a2 b2 p2)).run P w = .ok () w := by simp [eqGuard, recV, h.guard]
  have h' : (binOp .eql t (recV a1 b1 p1) (recV a2 b2 p2)).run P w = .ok (.bool (decide (a1 = a2 ∧ b1 = b2 ∧ p1 = p2))) w := by
    have := run_eql_struct (P := P) w t #[sV a1, sV b1, .bool p1] #[sV a2, sV b2, .bool p2]
    refine this.trans ?_
    exact (congrArg (fun r => Result.andThen r _) (run_eqRec h a1 b1 a2 b2 p1 p2)).trans rfl
  simp only [Gv, execOp, ho, hx, hy, Sem.run_bind, hg, Result.andThen_ok, h', Sem.run_pure]
theorem gv_recNeq {s b : TypeId} {a1 b1 a2 b2 : List UInt8} {p1 p2 : Bool} (h : Rec3 P t s b) (ho : o.op = .binOp .neq t x y t') (hx : a.eval x = recV a1 b1 p1) (hy : a.eval y = recV a2 b2 p2) : Gv P o a w (.bool (decide (¬ (a1 = a2 ∧ b1 = b2 ∧ p1 = p2)))) := by
  have hg : (eqGuard .neq t x y (recV a1 b1 p1) (recV a2 b2 p2)).run P w = .ok () w := by simp [eqGuard, recV, h.guard]
  have h' : (binOp .neq t (recV a1 b1 p1) (recV a2 b2 p2)).run P w = .ok (.bool (!(decide (a1 = a2 ∧ b1 = b2 ∧ p1 = p2)))) w := by
    have := run_neq_struct (P := P) w t #[sV a1, sV b1, .bool p1] #[sV a2, sV b2, .bool p2]
    refine this.trans ?_
    exact (congrArg (fun r => Result.andThen r _) (run_eqRec h a1 b1 a2 b2 p1 p2)).trans rfl
  rw [decide_not]
  simp only [Gv, execOp, ho, hx, hy, Sem.run_bind, hg, Result.andThen_ok, h', Sem.run_pure]
/-! ### A text appended -/
theorem str_cells (ml : List UInt8) : (((ByteArray.mk ml.toArray).extract 0 ml.length).data.map fun b => Value.int .u8 (b.toNat : Int)) = (ml.map vB).toArray := by
  apply Array.ext'
  simp [ByteArray.extract, ByteArray.copySlice]
  have h : ByteArray.empty.data.toList = [] := rfl
  simp [h, vB]
theorem run_appendS {ty : TypeId} {z : Value} (ht : P.underlying t = some (.slice e)) (hu : P.underlying u = some .string) (hy : Ty P e z 1 1) (hzc : z.cells.size = 1) {ob : Option Nat} {l ml : List UInt8} {pad : List Value} (hS : St w0 w H) {k : Nat} (hk : H[k]? = some ⟨true, ob, blk e (l.map vB ++ pad)⟩)
    (hob : ob = none → l = [] ∧ pad = []) (hcap : l.length + pad.length ≤ 9223372036854775807) (hn : l.length + ml.length ≤ 140737488355328) :
    ∃ ob' pad' w', (Builtin.append_ #[t, u] ty #[ownV ob l.length (l.length + pad.length), sV ml]).run P w = .ok (ownV ob' (l ++ ml).length ((l ++ ml).length + pad'.length)) w' ∧
      (ob' = none → l ++ ml = [] ∧ pad' = []) ∧ (l ++ ml).length + pad'.length ≤ 9223372036854775807 ∧ St w0 w' (H.set k ⟨true, ob', blk e ((l ++ ml).map vB ++ pad')⟩) := by
  obtain ⟨i, hi, h2, h3, h4⟩ := hy.get
  have hsz := sV_size ml
  have hlen : (l ++ ml).length = l.length + ml.length := List.length_append
  have htk : List.take ml.length (List.map (fun b : UInt8 => Value.int IntKind.u8 (b.toNat : Int)) ml) = ml.map vB := List.take_of_length_le (by simp)
  by_cases hroom : ml.length ≤ pad.length
  · have hneed : l.length + ml.length ≤ l.length + pad.length := by omega
    cases ob with
    | none =>
      obtain ⟨rfl, rfl⟩ := hob rfl
      have hm0 : ml = [] := List.length_eq_zero_iff.1 (by simpa using hroom)
      subst hm0
      refine ⟨none, [], w, ?_, fun _ => ⟨rfl, rfl⟩, by simp, by rw [show ([] : List UInt8) ++ [] = [] from rfl, set_self hk]; exact hS⟩
      simp [ownV, sV, Builtin.append_, run_underlying ht, run_underlying hu, sizeOf, typeInfo, hi, Builtin.lenOf, ByteArray.size, h3, Builtin.firstCells]
    | some b =>
      have hb := hS.has _ (List.mem_of_getElem? hk) b rfl
      have hst := run_storeCells_at P b l.length e (ml.map vB) 0 (l.map vB ++ pad).toArray w hb (by simp; omega) (one_B ml)
      simp only [Nat.add_zero] at hst
      refine ⟨some b, pad.drop ml.length, w.setRow b ((l ++ ml).map vB ++ pad.drop ml.length).toArray, ?_, (fun h => by cases h), (by rw [hlen, List.length_drop]; omega), hS.setRow hk⟩
      have e1 : ((l.map vB ++ pad).toArray.toList.take l.length ++ ml.map vB ++ (l.map vB ++ pad).toArray.toList.drop (l.length + (ml.map vB).length)).toArray = ((l ++ ml).map vB ++ pad.drop ml.length).toArray := by
        congr 1
        simp [List.take_append, List.drop_append, List.drop_eq_nil_of_le]
      rw [e1] at hst
      have hval : (l ++ ml).length + (pad.drop ml.length).length = l.length + pad.length := by rw [hlen, List.length_drop]; omega
      simp only [hval]
      simp [ownV, sV, Builtin.append_, run_underlying ht, run_underlying hu, sizeOf, typeInfo, hi, Builtin.lenOf, hsz, h3, hroom, Builtin.firstCells, htk, add_lit, hst, hlen]
  · have hm0 : 0 < ml.length := by omega
    have hg : l.length + pad.length < l.length + ml.length := by omega
    have hge := grownCap_ge w (l.length + ml.length) (l.length + pad.length) e
    have hle := grownCap_le_maxLen w (l.length + ml.length) (l.length + pad.length) e (by simp only [maxLen]; omega)
    obtain ⟨Z, hZ⟩ : ∃ Z : Array Value, Builtin.zeroCells z.cells (grownCap w (l.length + ml.length) (l.length + pad.length) e - (l.length + ml.length)) = Z := ⟨_, rfl⟩
    have hZl : Z.toList.length = grownCap w (l.length + ml.length) (l.length + pad.length) e - (l.length + ml.length) := by rw [← hZ, Array.length_toList, size_zeroCells, hzc]; omega
    have hval : (l ++ ml).length + Z.toList.length = grownCap w (l.length + ml.length) (l.length + pad.length) e := by rw [hlen, hZl]; omega
    have hrun : (Builtin.append_ #[t, u] ty #[ownV ob l.length (l.length + pad.length), sV ml]).run P w = .ok (.slice (some ⟨w.heap.size, 0, none⟩) (l.length + ml.length) (grownCap w (l.length + ml.length) (l.length + pad.length) e)) (w.drew.alloc (.cells ((l ++ ml).map vB ++ Z.toList).toArray e)) := by
      have harr : ((l.map vB).toArray ++ (ml.map vB).toArray ++ Z) = ((l ++ ml).map vB ++ Z.toList).toArray := by apply Array.ext'; simp
      cases ob with
      | none =>
        obtain ⟨rfl, rfl⟩ := hob rfl
        have hr := run_append_nil_string (P := P) w t u ty e i z ht hu hi h2 ⟨ml.toArray⟩ (by rw [hsz]; exact hm0) (by rw [hsz]; omega) (by rw [hsz, h4]; omega)
        rw [hsz] at hr
        simp only [List.length_nil, Nat.zero_add] at hZ ⊢
        rw [hZ] at hr
        refine hr.trans ?_
        congr 3
        apply Array.ext'
        simp [vB]
      | some b =>
        have hn1 : ¬ (l.length + ml.length ≤ l.length + pad.length) := by omega
        have h63' : ¬ (9223372036854775807 < ((l.length : Int) + (ml.length : Int))) := by omega
        have hfit := growslice_fits (bytes := 1) hg (by omega)
        have h48' : ¬ (281474976710656 < Builtin.nextslicecap (l.length + ml.length) (l.length + pad.length)) := by omega
        have hfo := run_firstCells_some (P := P) w.drew 1 l.length ⟨b, 0, none⟩ l.length (l.length + pad.length) (l.map vB) (by simp) (fun j v hv => by
          rw [add_lit, Nat.zero_add]
          have := hS.cell hk (i := j) (v := v) (by rw [List.getElem?_append_left (List.getElem?_eq_some_iff.1 hv).1]; exact hv)
          simpa using this)
        simp only [grownCap] at hZ ⊢
        have hfo' : (loadCells ⟨b, 0, none⟩ l.length).run P w.drew = .ok (l.map vB).toArray w.drew := by simpa [Builtin.firstCells] using hfo
        have harr' : (l.map vB).toArray ++ ((ml.map vB).toArray ++ Z) = (l.map vB ++ (ml.map vB ++ Z.toList)).toArray := by apply Array.ext'; simp
        simp [ownV, sV, Builtin.append_, run_underlying ht, run_underlying hu, sizeOf, typeInfo, zeroValue, hi, h2, h3, h4, Builtin.lenOf, hsz, hroom, h63', h48', Question.forced, hfo', Builtin.firstCells, htk, newRow, hZ, harr']
    refine ⟨some w.heap.size, Z.toList, _, (by rw [hval, hlen]; exact hrun), (fun h => by cases h), (by rw [hval]; simpa [maxLen] using hle), ?_⟩
    refine hS.swap hk rfl (w' := w.drew.alloc _) ⟨rfl, rfl, rfl, by simp, fun j hj => heap_alloc_old w.drew _ hj⟩ (some w.heap.size) _ fun b' hb' => ?_
    injection hb' with hb'
    subst hb'
    exact ⟨Nat.le_refl _, (heap_alloc_new w.drew _).trans (by simp [blk])⟩
theorem stp_appS {z : Value} {ob : Option Nat} {l ml : List UInt8} {pad : List Value} {d k : Nat} (hF : Fr N a m) (hw : Region.wanted o (yielded ops a.tmps) = true) (hd : o.dst = some d) (hN : Nat.blt d N = true)
    (ho : o.op = .call { callee := .builtin .append, args := #[x, y], argTypes := #[t, u] }) (ht : P.underlying t = some (.slice e)) (hu : P.underlying u = some .string) (hty : Ty P e z 1 1) (hzc : z.cells.size = 1)
    (hx : a.eval x = ownV ob l.length (l.length + pad.length)) (hy : a.eval y = sV ml) (hS : St w0 w H) (hk : H[k]? = some ⟨true, ob, blk e (l.map vB ++ pad)⟩) (hob : ob = none → l = [] ∧ pad = []) (hcap : l.length + pad.length ≤ 9223372036854775807)
    (hn : l.length + ml.length ≤ 140737488355328)
    (h : ∀ ob' pad' a' w', Fr N a' ((d, ownV ob' (l ++ ml).length ((l ++ ml).length + pad'.length)) :: m) → (ob' = none → l ++ ml = [] ∧ pad' = []) → (l ++ ml).length + pad'.length ≤ 9223372036854775807 →
      St w0 w' (H.set k ⟨true, ob', blk e ((l ++ ml).map vB ++ pad')⟩) → K a' w') : Stp P ops Q o a w K := by
  obtain ⟨ob', pad', w', hrun, h2, h3, h4⟩ := run_appendS (ty := o.type) ht hu hty hzc hS hk hob hcap hn
  refine stp_val hF hw hd hN ?_ fun a' hF' => h ob' pad' a' w' hF' h2 h3 h4
  unfold execOp
  rw [ho]
  simp [resolve, invoke, builtin, hx, hy, hrun]
/-! ### Copies into the midst of a row, least and greatest numbers -/
theorem stp_copyAt {b off n c k d : Nat} {nw : Bool} {cs : List Value} {ml : List UInt8} {v : Value} (hF : Fr N a m) (hw : Region.wanted o (yielded ops a.tmps) = true) (hd : o.dst = some d) (hN : Nat.blt d N = true)
    (ho : o.op = .call { callee := .builtin .copy, args := #[x, y], argTypes := #[t, t] }) (ht : P.underlying t = some (.slice e)) (hz : (P.info? e).map (·.size) = some 1) {T : TypeId}
    (hx : a.eval x = .slice (some ⟨b, off, none⟩) n c) (hy : a.eval y = v) (hS : St w0 w H) (hk : H[k]? = some ⟨nw, some b, blk T cs⟩) (hl : off + n ≤ cs.length) (hr : Rd w v (ml.map vB))
    (h : ∀ a' w', Fr N a' ((d, vI (min ml.length n)) :: m) → St w0 w' (H.set k ⟨nw, some b, blk T (cs.take off ++ (ml.take n).map vB ++ cs.drop (off + min ml.length n))⟩) → K a' w') : Stp P ops Q o a w K := by
  obtain ⟨A2, c2, rfl, _, _, hc2⟩ := hr.isB
  have hb := hS.has _ (List.mem_of_getElem? hk) b rfl
  have hlen : ((ml.take n).map vB).length = min ml.length n := by rw [List.length_map, List.length_take, Nat.min_comm]
  have hst := run_storeCells_at P b off T ((ml.take n).map vB) 0 cs.toArray w hb (by rw [hlen]; simp; omega) (one_B _)
  simp only [Nat.add_zero] at hst
  rw [hlen] at hst
  have hrun : (Builtin.copy_ #[t, t] o.type #[.slice (some ⟨b, off, none⟩) n c, .slice A2 ml.length c2]).run P w = .ok (vI (min ml.length n)) (w.setRow b (cs.take off ++ (ml.take n).map vB ++ cs.drop (off + min ml.length n)).toArray) := by
    have hmin : Nat.min ml.length n = min ml.length n := rfl
    by_cases hp : 0 < ml.length
    · obtain ⟨b2, o2, rfl, hd2⟩ := hc2 hp
      have hf := run_firstCells_some (P := P) w 1 (min ml.length n) ⟨b2, o2, none⟩ ml.length c2 ((ml.take n).map vB) (by rw [hlen]; simp) (fun j u hu => by
        rw [List.getElem?_map] at hu
        obtain ⟨q, hq, rfl⟩ := Option.map_eq_some_iff.1 hu
        have h1 := (List.getElem?_eq_some_iff.1 hq).1
        have h2 : j < ml.length := by rw [List.length_take] at h1; omega
        rw [add_lit, hd2 j h2, List.getD_eq_getElem?_getD]
        rw [List.getElem?_take] at hq
        split at hq
        · rw [hq]; rfl
        · cases hq)
      simp [Builtin.copy_, run_underlying ht, Fw.run_sizeOf hz, Builtin.lenOf, hmin, hf, goInt, vI]
      rw [show (List.take n (List.map vB ml)) = (ml.take n).map vB from (List.map_take ..).symm, hst]
      simp
    · have h0 : ml = [] := List.length_eq_zero_iff.1 (by omega)
      subst h0
      have hf : (Builtin.firstCells 1 0 (.slice A2 0 c2)).run P w = .ok #[] w := by
        cases A2 with
        | none => exact run_firstCells_none w 1 0 0 c2
        | some A2 => exact run_firstCells_some (P := P) w 1 0 A2 0 c2 [] rfl (fun j u hu => by cases hu)
      have e1 : (cs.take off ++ (([] : List UInt8).take n).map vB ++ cs.drop (off + min ([] : List UInt8).length n)) = cs := by simp
      rw [e1]
      have hself : w.setRow b cs.toArray = w := setRow_self w b cs.toArray T (0, 0) hb
      rw [hself]
      simp [Builtin.copy_, run_underlying ht, Fw.run_sizeOf hz, Builtin.lenOf, hf, goInt, vI, storeCells]
  refine stp_val hF hw hd hN (v := vI (min ml.length n)) (w' := w.setRow b (cs.take off ++ (ml.take n).map vB ++ cs.drop (off + min ml.length n)).toArray) ?_ fun a' hF' => h a' _ hF' (hS.setRow hk)
  unfold execOp
  rw [ho]
  simp [resolve, invoke, builtin, hx, hy, hrun]
theorem gv_imin {p q : Int} {k : IntKind} (ho : o.op = .call { callee := .builtin .min, args := #[x, y], argTypes := #[t, u] }) (hx : a.eval x = .int k p) (hy : a.eval y = .int k q) : Gv P o a w (.int k (min p q)) := by
  unfold Gv execOp; rw [ho]
  have : (if q < p then q else p) = min p q := by split <;> omega
  simp [resolve, invoke, builtin, hx, hy, Builtin.min_, Builtin.min2, this]
theorem gv_imax {p q : Int} {k : IntKind} (ho : o.op = .call { callee := .builtin .max, args := #[x, y], argTypes := #[t, u] }) (hx : a.eval x = .int k p) (hy : a.eval y = .int k q) : Gv P o a w (.int k (max p q)) := by
  unfold Gv execOp; rw [ho]
  have : (if q > p then q else p) = max p q := by split <;> omega
  simp [resolve, invoke, builtin, hx, hy, Builtin.max_, Builtin.max2, this]
/-! ### Results some of which lie in cells -/
theorem retCTT {fn : Func} {R : Ending → World → Prop} {t s u : Nat} {ty : TypeId} {d : TypeDesc} {b k : Nat} {nw : Bool} {T : TypeId} {vs : List Value} {v2 v3 : Value} (hF : Fr N a m) (hr : fn.results = #[.cell t ty, .tmp s, .tmp u]) (ht : P.underlying ty = some d) (hd : (match d with | .struct _ | .array _ _ => true | _ => false) = true)
    (hz : (P.info? ty).map (·.size) = some vs.length) (hl : look t m = some (.pointer (some ⟨b, 0, none⟩))) (hl2 : look s m = some v2) (hl3 : look u m = some v3) (hS : St w0 w H) (hk : H[k]? = some ⟨nw, some b, blk T vs⟩) (h : R (.returned (.tuple #[.agg vs.toArray, v2, v3])) w) : bodyPost P fn R .ret a w := by
  have h1 := hF.get t _ hl
  have g2 := hF.get s _ hl2
  have g3 := hF.get u _ hl3
  unfold slot at h1 g2 g3
  have h2 := run_loadVar_row (P := P) w b T ty vs.toArray (0, 0) d (hS.has _ (List.mem_of_getElem? hk) b rfl) ht hd (by simpa using hz)
  exact bodyPost_ret (v := .tuple #[.agg vs.toArray, v2, v3]) (by
    have h1' : a.tmps[t]?.getD undef = .pointer (some ⟨b, 0, none⟩) := by rw [← h1, Array.getD_eq_getD_getElem?]
    have g2' : a.tmps[s]?.getD undef = v2 := by rw [← g2, Array.getD_eq_getD_getElem?]
    have g3' : a.tmps[u]?.getD undef = v3 := by rw [← g3, Array.getD_eq_getD_getElem?]
    simp [results, hr, h1', g2', g3', asAddr, h2]) hF.dfs h
theorem retTCT {fn : Func} {R : Ending → World → Prop} {t s u : Nat} {ty : TypeId} {d : TypeDesc} {b k : Nat} {nw : Bool} {T : TypeId} {vs : List Value} {v2 v3 : Value} (hF : Fr N a m) (hr : fn.results = #[.tmp s, .cell t ty, .tmp u]) (ht : P.underlying ty = some d) (hd : (match d with | .struct _ | .array _ _ => true | _ => false) = true)
    (hz : (P.info? ty).map (·.size) = some vs.length) (hl : look t m = some (.pointer (some ⟨b, 0, none⟩))) (hl2 : look s m = some v2) (hl3 : look u m = some v3) (hS : St w0 w H) (hk : H[k]? = some ⟨nw, some b, blk T vs⟩) (h : R (.returned (.tuple #[v2, .agg vs.toArray, v3])) w) : bodyPost P fn R .ret a w := by
  have h1 := hF.get t _ hl
  have g2 := hF.get s _ hl2
  have g3 := hF.get u _ hl3
  unfold slot at h1 g2 g3
  have h2 := run_loadVar_row (P := P) w b T ty vs.toArray (0, 0) d (hS.has _ (List.mem_of_getElem? hk) b rfl) ht hd (by simpa using hz)
  exact bodyPost_ret (v := .tuple #[v2, .agg vs.toArray, v3]) (by
    have h1' : a.tmps[t]?.getD undef = .pointer (some ⟨b, 0, none⟩) := by rw [← h1, Array.getD_eq_getD_getElem?]
    have g2' : a.tmps[s]?.getD undef = v2 := by rw [← g2, Array.getD_eq_getD_getElem?]
    have g3' : a.tmps[u]?.getD undef = v3 := by rw [← g3, Array.getD_eq_getD_getElem?]
    simp [results, hr, h1', g2', g3', asAddr, h2]) hF.dfs h
/-- A constant text as bytes: the row is marked. -/
theorem stp_convConst {b n c k d : Nat} {nw : Bool} {cs : List Value} (hF : Fr N a m) (hw : Region.wanted o (yielded ops a.tmps) = true) (hd : o.dst = some d) (hN : Nat.blt d N = true) (ho : o.op = .convert t t x) (ht : P.underlying t = some (.slice e)) (he : P.underlying e = some (.int .u8))
    (hx : a.eval x = .slice (some ⟨b, 0, none⟩) n c) (hS : St w0 w H) (hk : H[k]? = some ⟨nw, some b, blk e cs⟩)
    (h : ∀ a' w', Fr N a' ((d, .slice (some ⟨b, 0, none⟩) n c) :: m) → St w0 w' (H.set k ⟨nw, some b, blkX true e cs⟩) → K a' w') : Stp P ops Q o a w K := by
  have hb := hS.has _ (List.mem_of_getElem? hk) b rfl
  have hsh : w.shape? b = some (e, cs.length) := by
    unfold World.shape?
    rw [hb]
    simp [blk]
  have hrun : (convert t t (.slice (some ⟨b, 0, none⟩) n c)).run P w = .ok (.slice (some ⟨b, 0, none⟩) n c) (w.freeze ⟨b, cs.length, none⟩ 1) := by
    simp [convert, run_underlying ht, run_underlying he, markStringish, hsh]
  refine stp_val hF hw hd hN (v := .slice (some ⟨b, 0, none⟩) n c) (w' := w.freeze ⟨b, cs.length, none⟩ 1) ?_ fun a' hF' => h a' _ hF' ?_
  · unfold execOp
    rw [ho]
    simp [hx, hrun]
  · refine hS.turn hk rfl rfl rfl (by simp [World.freeze]) ?_ fun j hj hne => ?_
    · simp [World.freeze, Array.getElem?_modify, hb, blk, blkX]
    · have hne' : ¬ b = j := fun e => hne e.symm
      simp [World.freeze, Array.getElem?_modify, hne']
theorem rdXE {f nw : Bool} {b : Nat} {T : List Ent} {l : List UInt8} (he : ⟨nw, some b, blkX f e (l.map vB)⟩ ∈ T) (hl : l.length ≤ 9223372036854775807) : SRd w0 T (.slice (some ⟨b, 0, none⟩) l.length l.length) (l.map vB) := fun w H hS _ hs => by
  have := rdX (f := f) (nw := nw) (b := b) (l := l) (pad := []) (n := l.length) (e := e) hS (by rw [List.append_nil]; exact hs _ he) rfl (by simpa using hl)
  simpa using this
theorem run_appFull {z : Value} {ty : TypeId} {A : Option Addr} {l ml : List UInt8} {v : Value} (ht : P.underlying t = some (.slice e)) (hty : Ty P e z 1 1) (hzc : z.cells.size = 1)
    (hS : St w0 w H) (hl : Rd w (.slice A l.length l.length) (l.map vB)) (hlp : 0 < l.length) (hr : Rd w v (ml.map vB)) (hp : 0 < ml.length) (hn : l.length + ml.length ≤ 140737488355328) :
    ∃ b pad w', (Builtin.append_ #[t, t] ty #[.slice A l.length l.length, v]).run P w = .ok (.slice (some ⟨b, 0, none⟩) (l ++ ml).length ((l ++ ml).length + pad.length)) w' ∧ (l ++ ml).length + pad.length ≤ 9223372036854775807 ∧
      St w0 w' (⟨true, some b, blk e ((l ++ ml).map vB ++ pad)⟩ :: H) := by
  obtain ⟨i, hi, h2, h3, h4⟩ := hty.get
  obtain ⟨A1, c1, hv1, _, _, hc1⟩ := hl.isB
  injection hv1 with hA1 _ _
  subst hA1
  obtain ⟨b1, o1, rfl, hd1⟩ := hc1 hlp
  obtain ⟨A2, c2, rfl, _, _, hc2⟩ := hr.isB
  obtain ⟨b2, o2, rfl, hd2⟩ := hc2 hp
  have hget : ∀ (l : List UInt8) (j : Nat) (u : Value), (l.map vB)[j]? = some u → j < l.length ∧ u = vB (l.getD j 0) := fun l j u hu => by
    rw [List.getElem?_map] at hu
    obtain ⟨q, hq, rfl⟩ := Option.map_eq_some_iff.1 hu
    exact ⟨(List.getElem?_eq_some_iff.1 hq).1, by rw [List.getD_eq_getElem?_getD, hq]; rfl⟩
  have hr := run_append_grow (P := P) w t ty e i z ht hi h2 ⟨b1, o1, none⟩ l.length l.length (l.map vB) (by simp [h3]) (fun j u hu => by
      obtain ⟨g1, rfl⟩ := hget l j u hu
      rw [add_lit]; exact hd1 j g1) ⟨b2, o2, none⟩ ml.length c2 (ml.map vB) (by simp [h3]) (fun j u hu => by
      obtain ⟨g1, rfl⟩ := hget ml j u hu
      rw [add_lit]; exact hd2 j g1) (by omega) (by omega) (growslice_fits (by omega) (by rw [h4]; omega))
  have hge := grownCap_ge w (l.length + ml.length) l.length e
  have hle := grownCap_le_maxLen w (l.length + ml.length) l.length e (by simp only [maxLen]; omega)
  obtain ⟨Z, hZ⟩ : ∃ Z : Array Value, Builtin.zeroCells z.cells (grownCap w (l.length + ml.length) l.length e - (l.length + ml.length)) = Z := ⟨_, rfl⟩
  have hZl : Z.toList.length = grownCap w (l.length + ml.length) l.length e - (l.length + ml.length) := by rw [← hZ, Array.length_toList, size_zeroCells, hzc]; omega
  rw [hZ] at hr
  have hlen : (l ++ ml).length = l.length + ml.length := List.length_append
  have hcap : (l ++ ml).length + Z.toList.length = grownCap w (l.length + ml.length) l.length e := by rw [hlen, hZl]; omega
  refine ⟨w.heap.size, Z.toList, _, (by rw [hcap, hlen]; exact hr), (by rw [hcap]; simpa [maxLen] using hle), ?_⟩
  refine hS.float (w' := w.drew.alloc _) ⟨rfl, rfl, rfl, by simp, fun j hj => heap_alloc_old w.drew _ hj⟩ (Nat.le_refl _) ((heap_alloc_new w.drew _).trans ?_)
  simp [blk]
theorem sx_appFull {R : Value → World → Prop} {z : Value} {A : Option Addr} {l ml : List UInt8} {v : Value} {w00 : World} (hw : Region.wanted o (yielded ops a.tmps) = true)
    (ho : o.op = .call { callee := .builtin .append, args := #[x, y], argTypes := #[t, t] }) (ht : P.underlying t = some (.slice e)) (hty : Ty P e z 1 1) (hzc : z.cells.size = 1)
    (hx : a.eval x = .slice A l.length l.length) (hy : a.eval y = v) (hl : Rd w (.slice A l.length l.length) (l.map vB)) (hlp : 0 < l.length) (hr : Rd w v (ml.map vB)) (hp : 0 < ml.length) (hn : l.length + ml.length ≤ 140737488355328)
    (h : ∀ b pad w', (l ++ ml).length + pad.length ≤ 9223372036854775807 → St w w' [⟨true, some b, blk e ((l ++ ml).map vB ++ pad)⟩] → R (.slice (some ⟨b, 0, none⟩) (l ++ ml).length ((l ++ ml).length + pad.length)) w') : SX P ops o a w R := by
  obtain ⟨b, pad, w', h1, h2, h3⟩ := run_appFull (ty := o.type) ht hty hzc (St.refl w) hl hlp hr hp hn
  exact ⟨hw, .inl ⟨_, w', run_appendOp ho hx hy h1, h3.toExt (nw_cons rfl nw_nil), h b pad w' h2 h3⟩⟩
/-! ### Guards within guards -/
theorem stp_gvN {p q : Prop} [Decidable p] [Decidable q] (hF : Fr N a m) {j t : Nat} {uv : Value} (hg : o.guard = some (j, true)) (hj : (ops[j]?).bind (·.dst) = some t) (hl : look t m = some uv) (hu1 : p → uv = .bool (decide q)) (hu2 : ¬ p → uv = undef) {d : Nat} {v : Value} (hd : o.dst = some d) (hN : Nat.blt d N = true)
    (hv : p ∧ q → Gv P o a w v) (h : ∀ a', Fr N a' ((d, if p ∧ q then v else undef) :: m) → K a' w) : Stp P ops Q o a w K := by
  by_cases hp : p
  · rw [hu1 hp] at hl
    by_cases hq : q
    · rw [decide_eq_true hq] at hl
      exact stp_gv hF (wanted_of hF hg hj hl) hd hN (hv ⟨hp, hq⟩) (by simpa [hp, hq] using h)
    · rw [decide_eq_false hq] at hl
      exact stp_skip hF (unwanted_of hF hg hj hl rfl) hd hN (by simpa [hp, hq] using h)
  · rw [hu2 hp] at hl
    exact stp_skip hF (unwanted_undef hF hg hj hl) hd hN (by simpa [hp] using h)
theorem stp_gvN' {p q : Prop} [Decidable p] [Decidable q] (hF : Fr N a m) {j t : Nat} {uv : Value} (hg : o.guard = some (j, false)) (hj : (ops[j]?).bind (·.dst) = some t) (hl : look t m = some uv) (hu1 : p → uv = .bool (decide q)) (hu2 : ¬ p → uv = undef) {d : Nat} {v : Value} (hd : o.dst = some d) (hN : Nat.blt d N = true)
    (hv : p ∧ ¬ q → Gv P o a w v) (h : ∀ a', Fr N a' ((d, if p ∧ ¬ q then v else undef) :: m) → K a' w) : Stp P ops Q o a w K := by
  by_cases hp : p
  · rw [hu1 hp] at hl
    by_cases hq : q
    · rw [decide_eq_true hq] at hl
      exact stp_skip hF (unwanted_of hF hg hj hl rfl) hd hN (by simpa [hp, hq] using h)
    · rw [decide_eq_false hq] at hl
      exact stp_gv hF (wanted_of hF hg hj hl) hd hN (hv ⟨hp, hq⟩) (by simpa [hp, hq] using h)
  · rw [hu2 hp] at hl
    exact stp_skip hF (unwanted_undef hF hg hj hl) hd hN (by simpa [hp] using h)
theorem dw_gvN {p q : Prop} [Decidable p] [Decidable q] {fl : List Nat} {KK : Act → Prop} {i : Nat} {rest : List Oper} (hF : Fr N a m) (hfl : fl.contains i = false) {j t : Nat} {uv : Value} (hg : o.guard = some (j, true)) (hj : (ops[j]?).bind (·.dst) = some t) (hl : look t m = some uv) (hu1 : p → uv = .bool (decide q)) (hu2 : ¬ p → uv = undef) {d : Nat} {v : Value} (hd : o.dst = some d) (hN : Nat.blt d N = true)
    (hv : ∀ w', Ext w w' → p ∧ q → Gv P o a w' v) (h : ∀ a', Fr N a' ((d, if p ∧ q then v else undef) :: m) → dwalk P ops w fl KK (i + 1) rest a') : dwalk P ops w fl KK i (o :: rest) a := by
  by_cases hp : p
  · rw [hu1 hp] at hl
    by_cases hq : q
    · rw [decide_eq_true hq] at hl
      exact dw_gv hF hfl (wanted_of hF hg hj hl) hd hN (fun w' hx => hv w' hx ⟨hp, hq⟩) (by simpa [hp, hq] using h)
    · rw [decide_eq_false hq] at hl
      exact dw_skip hF hfl (unwanted_of hF hg hj hl rfl) hd hN (by simpa [hp, hq] using h)
  · rw [hu2 hp] at hl
    exact dw_skip hF hfl (unwanted_undef hF hg hj hl) hd hN (by simpa [hp] using h)
theorem dw_gvN' {p q : Prop} [Decidable p] [Decidable q] {fl : List Nat} {KK : Act → Prop} {i : Nat} {rest : List Oper} (hF : Fr N a m) (hfl : fl.contains i = false) {j t : Nat} {uv : Value} (hg : o.guard = some (j, false)) (hj : (ops[j]?).bind (·.dst) = some t) (hl : look t m = some uv) (hu1 : p → uv = .bool (decide q)) (hu2 : ¬ p → uv = undef) {d : Nat} {v : Value} (hd : o.dst = some d) (hN : Nat.blt d N = true)
    (hv : ∀ w', Ext w w' → p ∧ ¬ q → Gv P o a w' v) (h : ∀ a', Fr N a' ((d, if p ∧ ¬ q then v else undef) :: m) → dwalk P ops w fl KK (i + 1) rest a') : dwalk P ops w fl KK i (o :: rest) a := by
  by_cases hp : p
  · rw [hu1 hp] at hl
    by_cases hq : q
    · rw [decide_eq_true hq] at hl
      exact dw_skip hF hfl (unwanted_of hF hg hj hl rfl) hd hN (by simpa [hp, hq] using h)
    · rw [decide_eq_false hq] at hl
      exact dw_gv hF hfl (wanted_of hF hg hj hl) hd hN (fun w' hx => hv w' hx ⟨hp, hq⟩) (by simpa [hp, hq] using h)
  · rw [hu2 hp] at hl
    exact dw_skip hF hfl (unwanted_undef hF hg hj hl) hd hN (by simpa [hp] using h)
theorem nest_or {p q : Prop} [Decidable p] [Decidable q] {v : Value} (h : p) : (if p ∧ ¬ q then v else undef) = if q then undef else v := by
  by_cases hq : q <;> simp [h, hq]
theorem nest_and {p q : Prop} [Decidable p] [Decidable q] {v : Value} (h : p) : (if p ∧ q then v else undef) = if q then v else undef := by
  by_cases hq : q <;> simp [h, hq]
/-- x[lo:hi] of an array behind its address. -/
theorem gv_sliceArr2 {y' : Operand} {n b off lo hi : Nat} (ho : o.op = .slice t x (some y') (some y) none) (ht : P.underlying t = some (.array n e)) (hz : (P.info? e).map (·.size) = some 1) (hx : a.eval x = .pointer (some ⟨b, off, none⟩)) (hl : a.eval y' = vI lo) (hh : a.eval y = vI hi) (h1 : lo ≤ hi) (h2 : hi ≤ n) : Gv P o a w (cut3V (some ⟨b, off, none⟩) lo hi n) := by
  unfold Gv execOp; rw [ho]
  have g1 : (0 : Int) ≤ (lo : Int) ∧ (lo : Int) ≤ (hi : Int) := ⟨by omega, by omega⟩
  have g2 : (0 : Int) ≤ (hi : Int) ∧ (hi : Int) ≤ (n : Int) := ⟨by omega, by omega⟩
  simp [hx, hl, hh, vI, Instr.sliceAt, run_und ht, Instr.sureAddr, Instr.sliceBounds, Instr.sliceBound, asIntOf, g1, g2, h1, h2, Fw.run_sizeOf hz, cut3V]
  split <;> rfl
end
end Go.Fw

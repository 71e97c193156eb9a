/- What is proved: the steps of a walk: over code, over a list of operations in the order of the text, over the head of a region that draws its order; loads, stores, new memory, append, calls, loops, returns. Over any program. -/
import Derived.Test.YtbggihomiadjjaaGreatDoorFwGv
import Derived.Maps.AppendAt
set_option linter.unusedVariables false
set_option linter.unusedSimpArgs false
namespace Go.Fw
open Go Go.RowKit

section
variable {P : Program} {ops : Array Oper} {Q : Exit → Act → World → Prop} {N : Nat} {a : Act} {m : List (Nat × Value)} {o : Oper} {w w0 : World} {K : Act → World → Prop} {rest : List Oper} {H : List Ent}

/-- One operation, whatever goes on behind it. -/
def Stp (P : Program) (ops : Array Oper) (Q : Exit → Act → World → Prop) (o : Oper) (a : Act) (w : World) (K : Act → World → Prop) : Prop :=
  if Region.wanted o (yielded ops a.tmps) then o.wp P a w K Q ∨ (o.asks P a w ∧ LetsOut Q) else K (a.put o.dst undef) w
theorem wpList_stp (h : Stp P ops Q o a w (wpList P ops Q rest)) : wpList P ops Q (o :: rest) a w := h
theorem run_stp {n : Nat} (hr : Region.ready .any ops (upto ops.size n) = [n]) (ho : ops[n]? = some o) (h : Stp P ops Q o a w (Run P ops Q (n + 1))) : Run P ops Q n a w :=
  run_seq hr (by unfold wpOp; rw [ho]; exact h)
theorem wanted_none (hg : o.guard = none) : Region.wanted o (yielded ops a.tmps) = true := by simp [Region.wanted, hg]
theorem yielded_of (hF : Fr N a m) {j t : Nat} {b : Bool} (hj : (ops[j]?).bind (·.dst) = some t) (hl : look t m = some (.bool b)) : yielded ops a.tmps j = some b := by
  have h := hF.get t _ hl
  unfold yielded
  rw [hj]
  simp only [slot, Array.getD_eq_getD_getElem?] at h
  cases ht : a.tmps[t]? with
  | none => rw [ht] at h; simp [undef] at h
  | some v => rw [ht] at h; simp only [Option.getD_some] at h; subst h; simp [ht]
theorem wanted_of (hF : Fr N a m) {j t : Nat} {b : Bool} (hg : o.guard = some (j, b)) (hj : (ops[j]?).bind (·.dst) = some t) (hl : look t m = some (.bool b)) : Region.wanted o (yielded ops a.tmps) = true := by
  simp [Region.wanted, hg, yielded_of hF hj hl]
theorem unwanted_of (hF : Fr N a m) {j t : Nat} {b c : Bool} (hg : o.guard = some (j, b)) (hj : (ops[j]?).bind (·.dst) = some t) (hl : look t m = some (.bool c)) (hne : (c == b) = false) : Region.wanted o (yielded ops a.tmps) = false := by
  simp only [Region.wanted, hg, yielded_of hF hj hl]
  simpa using hne

theorem stp_wp (hw : Region.wanted o (yielded ops a.tmps) = true) (h : o.wp P a w K Q) : Stp P ops Q o a w K := by
  unfold Stp; rw [if_pos hw]; exact .inl h
theorem stp_skip (hF : Fr N a m) (hw : Region.wanted o (yielded ops a.tmps) = false) {d : Nat} (hd : o.dst = some d) (hN : Nat.blt d N = true) (h : ∀ a', Fr N a' ((d, undef) :: m) → K a' w) : Stp P ops Q o a w K := by
  unfold Stp; rw [if_neg (by rw [hw]; exact Bool.false_ne_true), hd]; exact h _ (hF.put _ hN)
/-- What yields a value and leaves the world. -/
theorem stp_gv (hF : Fr N a m) (hw : Region.wanted o (yielded ops a.tmps) = true) {d : Nat} {v : Value} (hd : o.dst = some d) (hN : Nat.blt d N = true) (hv : Gv P o a w v) (h : ∀ a', Fr N a' ((d, v) :: m) → K a' w) : Stp P ops Q o a w K := by
  refine stp_wp hw ?_
  unfold Oper.wp
  rw [hv]
  show K (a.put o.dst v) w
  rw [hd]
  exact h _ (hF.put v hN)
/-- What yields a value and turns the world. -/
theorem stp_val (hF : Fr N a m) (hw : Region.wanted o (yielded ops a.tmps) = true) {d : Nat} {v : Value} {w' : World} (hd : o.dst = some d) (hN : Nat.blt d N = true) (hv : (execOp a.eval o).run P w = .ok (.value v) w') (h : ∀ a', Fr N a' ((d, v) :: m) → K a' w') : Stp P ops Q o a w K := by
  refine stp_wp hw ?_
  unfold Oper.wp
  rw [hv]
  show K (a.put o.dst v) w'
  rw [hd]
  exact h _ (hF.put v hN)
theorem stp_unit (hF : Fr N a m) (hw : Region.wanted o (yielded ops a.tmps) = true) {w' : World} (hd : o.dst = none) (hv : (execOp a.eval o).run P w = .ok .skip w') (h : K a w') : Stp P ops Q o a w K := by
  refine stp_wp hw ?_
  unfold Oper.wp
  rw [hv]
  show K (a.put o.dst undef) w'
  rw [hd]
  exact h

/-! ### Calls -/
def Evs (a : Act) : List Operand → List Value → Prop
  | [], [] => True
  | x :: xs, v :: vs => a.eval x = v ∧ Evs a xs vs
  | _, _ => False
theorem Evs.nil {a : Act} : Evs a [] [] := trivial
theorem Evs.cons {a : Act} {x : Operand} {v : Value} {xs : List Operand} {vs : List Value} (hx : a.eval x = v) (h : Evs a xs vs) : Evs a (x :: xs) (v :: vs) := ⟨hx, h⟩
theorem Evs.map : ∀ {xs : List Operand} {vs : List Value}, Evs a xs vs → xs.map a.eval = vs
  | [], [], _ => rfl
  | x :: xs, v :: vs, h => by rw [List.map_cons, h.1, Evs.map h.2]
  | [], _ :: _, h => h.elim
  | _ :: _, [], h => h.elim
/-- A function of the program that has a body. -/
structure CallOk (P : Program) (f : FuncId) : Prop where
  ok : ∃ fn, P.funcs[f]? = some fn ∧ (fn.name == "runtime.NumGoroutine") = false ∧ fn.body.isNone = false
theorem run_callFunc {f : FuncId} (h : CallOk P f) (args : Array Value) (w : World) : (callFunc f args).run P w = .ok (.enter f args) w := by
  obtain ⟨fn, h1, h2, h3⟩ := h.ok
  show (Sem.run P (callFunc f args) w) = _
  unfold callFunc
  simp only [program, Sem.run_bind, Sem.run, Result.andThen_ok, h1, h2, h3, Bool.false_eq_true, if_false]
  rfl
theorem run_callOp {f : FuncId} {xs : List Operand} {vs : List Value} {ats : Array TypeId} (hf : CallOk P f) (ho : o.op = .call { callee := .value (.func f), args := xs.toArray, argTypes := ats }) (hx : Evs a xs vs) :
    (execOp a.eval o).run P w = .ok (.enter f vs.toArray) w := by
  unfold execOp
  rw [ho]
  have hm := hx.map
  simp [resolve, Act.eval, Deferred.ofValue, invoke, run_callFunc hf, hm]
theorem stp_call {f : FuncId} {xs : List Operand} {vs : List Value} {ats : Array TypeId} {R : Ending → World → Prop} (hF : Fr N a m) (hw : Region.wanted o (yielded ops a.tmps) = true) {d : Nat} (hd : o.dst = some d) (hN : Nat.blt d N = true) (hf : CallOk P f)
    (ho : o.op = .call { callee := .value (.func f), args := xs.toArray, argTypes := ats }) (hx : Evs a xs vs) (hc : Calls P f vs.toArray w R)
    (h : ∀ e w', R e w' → ∃ v, e = .returned v ∧ ∀ a', Fr N a' ((d, v) :: m) → K a' w') : Stp P ops Q o a w K := by
  refine stp_wp hw ?_
  unfold Oper.wp
  rw [run_callOp hf ho hx]
  refine Calls.mono hc fun e w' hr => ?_
  obtain ⟨v, rfl, hk⟩ := h e w' hr
  show K (a.put o.dst v) w'
  rw [hd]
  exact hk _ (hF.put v hN)
/-- A call without a result slot. -/
theorem stp_callU {f : FuncId} {xs : List Operand} {vs : List Value} {ats : Array TypeId} {R : Ending → World → Prop} (hw : Region.wanted o (yielded ops a.tmps) = true) (hd : o.dst = none) (hf : CallOk P f)
    (ho : o.op = .call { callee := .value (.func f), args := xs.toArray, argTypes := ats }) (hx : Evs a xs vs) (hc : Calls P f vs.toArray w R)
    (h : ∀ e w', R e w' → ∃ v, e = .returned v ∧ K a w') : Stp P ops Q o a w K := by
  refine stp_wp hw ?_
  unfold Oper.wp
  rw [run_callOp hf ho hx]
  refine Calls.mono hc fun e w' hr => ?_
  obtain ⟨v, rfl, hk⟩ := h e w' hr
  show K (a.put o.dst v) w'
  rw [hd]
  exact hk

/-! ### Stores -/
theorem run_storeVar {t : TypeId} {b i : Nat} {T : TypeId} {cs vs : List Value} {v : Value} (hz : (P.info? t).map (·.size) = some vs.length) (hv : v.cells = vs.toArray) (h1 : ∀ u ∈ vs, u.oneCell' = true) (hb : w.heap[b]? = some (blk T cs)) (hl : i + vs.length ≤ cs.length) :
    (storeVar t ⟨b, i, none⟩ v).run P w = .ok () (w.setRow b (cs.take i ++ vs ++ cs.drop (i + vs.length)).toArray) := by
  have h2 := run_storeCells_at P b i T vs 0 cs.toArray w hb (by simpa using hl) h1
  simp only [Nat.add_zero] at h2
  simp [storeVar, run_sizeOf hz, hv, h2]
theorem St.setRow {w0 w : World} {H : List Ent} (h : St w0 w H) {k : Nat} {nw : Bool} {b : Nat} {T : TypeId} {cs cs' : List Value} (hk : H[k]? = some ⟨nw, some b, blk T cs⟩) : St w0 (w.setRow b cs'.toArray) (H.set k ⟨nw, some b, blk T cs'⟩) := by
  have hb := h.has _ (List.mem_of_getElem? hk) b rfl
  exact h.turn hk rfl rfl rfl (by simp) (setRow_heap w b cs.toArray _ T _ hb) fun c _ hc => setRow_other w b c _ hc
theorem stp_store {t : TypeId} {x y : Operand} {b i : Nat} {v : Value} {k : Nat} {nw : Bool} {T : TypeId} {cs : List Value} (hF : Fr N a m) (hw : Region.wanted o (yielded ops a.tmps) = true) (hd : o.dst = none) (ho : o.op = .store t x y)
    (hz : (P.info? t).map (·.size) = some 1) (hx : a.eval x = .pointer (some ⟨b, i, none⟩)) (hy : a.eval y = v) (hv : v.oneCell' = true) (hS : St w0 w H) (hk : H[k]? = some ⟨nw, some b, blk T cs⟩) (hi : i < cs.length)
    (h : ∀ w', St w0 w' (H.set k ⟨nw, some b, blk T (cs.set i v)⟩) → K a w') : Stp P ops Q o a w K := by
  have hb := hS.has _ (List.mem_of_getElem? hk) b rfl
  have hvc : v.cells = [v].toArray := by cases v <;> simp_all [Value.cells, Value.oneCell']
  refine stp_unit hF hw hd (w' := w.setRow b (cs.set i v).toArray) ?_ (h _ (hS.setRow hk))
  unfold execOp
  rw [ho]
  have hs := run_storeVar (P := P) (w := w) (t := t) (b := b) (i := i) (T := T) (cs := cs) (vs := [v]) (v := v) (by simpa using hz) hvc (by simpa using hv) hb (by simp; omega)
  have he : cs.take i ++ [v] ++ cs.drop (i + [v].length) = cs.set i v := by
    rw [List.set_eq_take_append_cons_drop, if_pos hi]; simp
  rw [he] at hs
  simp [hx, hy, Instr.storeAt, Instr.sureAddr, hs]
theorem stp_storeAgg {t : TypeId} {x y : Operand} {b i : Nat} {vs : List Value} {k : Nat} {nw : Bool} {T : TypeId} {cs : List Value} (hF : Fr N a m) (hw : Region.wanted o (yielded ops a.tmps) = true) (hd : o.dst = none) (ho : o.op = .store t x y)
    (hz : (P.info? t).map (·.size) = some vs.length) (hx : a.eval x = .pointer (some ⟨b, i, none⟩)) (hy : a.eval y = .agg vs.toArray) (hv : ∀ u ∈ vs, u.oneCell' = true) (hS : St w0 w H) (hk : H[k]? = some ⟨nw, some b, blk T cs⟩) (hi : i + vs.length ≤ cs.length)
    (h : ∀ w', St w0 w' (H.set k ⟨nw, some b, blk T (cs.take i ++ vs ++ cs.drop (i + vs.length))⟩) → K a w') : Stp P ops Q o a w K := by
  have hb := hS.has _ (List.mem_of_getElem? hk) b rfl
  refine stp_unit hF hw hd (w' := w.setRow b (cs.take i ++ vs ++ cs.drop (i + vs.length)).toArray) ?_ (h _ (hS.setRow hk))
  unfold execOp
  rw [ho]
  have hs := run_storeVar (P := P) (w := w) (t := t) (b := b) (i := i) (T := T) (cs := cs) (vs := vs) (v := .agg vs.toArray) hz rfl hv hb hi
  simp only [hx, hy, Instr.storeAt, Instr.sureAddr, Sem.run_bind, Sem.run_pure, Result.andThen_ok, hs]

/-! ### New memory -/
theorem run_newVar (t : TypeId) (v : Value) (w : World) : (newVar t v).run P w = .ok ⟨w.heap.size, 0, none⟩ (w.alloc (.cells v.cells t)) := by
  rfl
theorem run_allocOp {e : TypeId} {z : Value} {cs : List Value} (ho : o.op = .alloc e) (hz : (P.info? e).map (·.zero) = some (some z)) (hc : z.cells = cs.toArray) :
    (execOp a.eval o).run P w = .ok (.value (.pointer (some ⟨w.heap.size, 0, none⟩))) (w.alloc (blk e cs)) := by
  unfold execOp
  rw [ho]
  simp [Instr.alloc, run_zeroValue hz, run_newVar, hc, blk]
theorem stp_alloc {e : TypeId} {z : Value} {cs : List Value} {d : Nat} (hF : Fr N a m) (hw : Region.wanted o (yielded ops a.tmps) = true) (hd : o.dst = some d) (hN : Nat.blt d N = true) (ho : o.op = .alloc e) (hz : (P.info? e).map (·.zero) = some (some z)) (hc : z.cells = cs.toArray) (hS : St w0 w H)
    (h : ∀ b a' w', Fr N a' ((d, .pointer (some ⟨b, 0, none⟩)) :: m) → St w0 w' (⟨true, some b, blk e cs⟩ :: H) → K a' w') : Stp P ops Q o a w K :=
  stp_val hF hw hd hN (run_allocOp ho hz hc) fun a' hF' => h _ a' _ hF' (hS.alloc _)
theorem run_boxOp {e : TypeId} {x : Operand} {v : Value} {cs : List Value} (ho : o.op = .box e x) (hx : a.eval x = v) (hc : v.cells = cs.toArray) :
    (execOp a.eval o).run P w = .ok (.value (.pointer (some ⟨w.heap.size, 0, none⟩))) (w.alloc (blk e cs)) := by
  unfold execOp
  rw [ho]
  simp [Instr.box, run_newVar, hx, hc, blk]
theorem stp_box {e : TypeId} {x : Operand} {v : Value} {cs : List Value} {d : Nat} (hF : Fr N a m) (hw : Region.wanted o (yielded ops a.tmps) = true) (hd : o.dst = some d) (hN : Nat.blt d N = true) (ho : o.op = .box e x) (hx : a.eval x = v) (hc : v.cells = cs.toArray) (hS : St w0 w H)
    (h : ∀ b a' w', Fr N a' ((d, .pointer (some ⟨b, 0, none⟩)) :: m) → St w0 w' (⟨true, some b, blk e cs⟩ :: H) → K a' w') : Stp P ops Q o a w K :=
  stp_val hF hw hd hN (run_boxOp ho hx hc) fun a' hF' => h _ a' _ hF' (hS.alloc _)
/-- The facts on a type. -/
structure Ty (P : Program) (e : TypeId) (z : Value) (sz by_ : Nat) : Prop where
  info : (P.info? e).map (fun i => (i.zero, i.size, i.bytes)) = some (some z, sz, by_)
theorem Ty.get {e : TypeId} {z : Value} {sz by_ : Nat} (h : Ty P e z sz by_) : ∃ i, P.info? e = some i ∧ i.zero = some z ∧ i.size = sz ∧ i.bytes = by_ := by
  obtain ⟨i, hi, hh⟩ := Option.map_eq_some_iff.1 h.info
  simp only [Prod.mk.injEq] at hh
  exact ⟨i, hi, hh.1, hh.2.1, hh.2.2⟩
theorem Ty.size {e : TypeId} {z : Value} {sz by_ : Nat} (h : Ty P e z sz by_) : (P.info? e).map (·.size) = some sz := by
  obtain ⟨i, hi, _, h2, _⟩ := h.get
  rw [hi]; simp [h2]
theorem madeCells_one (z : Value) (n : Nat) (hz : z.cells = #[z]) : madeCells z.cells n = (List.replicate n z).toArray := by
  apply Array.ext
  · simp [madeCells]
  · intro i h1 h2
    simp [madeCells, hz, Nat.mod_one]
theorem run_makeOp {t e : TypeId} {x y : Operand} {z : Value} {by_ n : Nat} (ho : o.op = .makeSlice t x y) (ht : P.underlying t = some (.slice e)) (hy : Ty P e z 1 by_) (hz : z.cells = #[z]) (hx : a.eval x = vI n) (hx' : a.eval y = vI n) (hb : by_ * n ≤ 140737488355328) (hn : n ≤ 140737488355328) :
    (execOp a.eval o).run P w = .ok (.value (.slice (some ⟨w.heap.size, 0, none⟩) n n)) (w.alloc (blk e (List.replicate n z))) := by
  obtain ⟨i, hi, h1, h2, h3⟩ := hy.get
  unfold execOp
  rw [ho]
  have hh : ((i.bytes : Int) * (n : Int)) = ((by_ * n : Nat) : Int) := by rw [h3]; exact (Int.natCast_mul _ _).symm
  have hr := run_make (P := P) w t e i z ht hi h1 .i64 .i64 n n (by omega) (by omega) (by rw [hh]; omega) (by omega)
  simp only [Int.toNat_natCast, h2, Nat.mul_one, madeCells_one z n hz] at hr
  simp [hx, hx', vI, hr, blk]
theorem stp_make {t e : TypeId} {x y : Operand} {z : Value} {by_ n : Nat} {d : Nat} (hF : Fr N a m) (hw : Region.wanted o (yielded ops a.tmps) = true) (hd : o.dst = some d) (hN : Nat.blt d N = true) (ho : o.op = .makeSlice t x y) (ht : P.underlying t = some (.slice e)) (hy : Ty P e z 1 by_) (hz : z.cells = #[z])
    (hx : a.eval x = vI n) (hx' : a.eval y = vI n) (hb : by_ * n ≤ 140737488355328) (hn : n ≤ 140737488355328) (hS : St w0 w H)
    (h : ∀ b a' w', Fr N a' ((d, .slice (some ⟨b, 0, none⟩) n n) :: m) → St w0 w' (⟨true, some b, blk e (List.replicate n z)⟩ :: H) → K a' w') : Stp P ops Q o a w K :=
  stp_val hF hw hd hN (run_makeOp ho ht hy hz hx hx' hb hn) fun a' hF' => h _ a' _ hF' (hS.alloc _)

/-! ### Appends onto what the call owns -/
def ownV (ob : Option Nat) (n c : Nat) : Value :=
  match ob with
  | none => .slice none 0 0
  | some b => .slice (some ⟨b, 0, none⟩) n c
theorem St.addNil (h : St w0 w H) (o : Obj) : St w0 w (⟨true, none, o⟩ :: H) := h.attach h.lts h.size none o fun b hb => by cases hb
/-- A new block in the place of another new one. -/
theorem St.swap {w' : World} (h : St w0 w H) {k : Nat} {e : Ent} (hk : H[k]? = some e) (hn : e.nw = true) (hx : Ext w w') (ob : Option Nat) (o : Obj) (hb : ∀ b, ob = some b → w.heap.size ≤ b ∧ w'.heap[b]? = some o) : St w0 w' (H.set k ⟨true, ob, o⟩) := by
  have hkl : k < H.length := (List.getElem?_eq_some_iff.1 hk).1
  have hat : ∀ i d, (H.set k ⟨true, ob, o⟩)[i]? = some d → (i = k ∧ d = ⟨true, ob, o⟩) ∨ (i ≠ k ∧ H[i]? = some d) := fun i d hi => by
    rw [List.getElem?_set] at hi
    by_cases hik : k = i
    · subst hik
      rw [if_pos rfl, if_pos hkl] at hi
      injection hi with hi
      exact .inl ⟨rfl, hi.symm⟩
    · rw [if_neg hik] at hi
      exact .inr ⟨fun e => hik e.symm, hi⟩
  have h' := h.ext hx
  refine ⟨h'.os, h'.tape, h'.output, h'.size, fun c hc hne => h'.old c hc fun d hd hf => ?_, fun d hd c hbe => ?_, fun d hd hn' c hbe => ?_, fun i j ei ej c hi hj hbi hbj => ?_⟩
  · obtain ⟨i, hi⟩ := List.getElem?_of_mem hd
    have hik : i ≠ k := by rintro rfl; rw [hk] at hi; injection hi with hi; subst hi; rw [hn] at hf; cases hf
    exact hne d (List.mem_of_getElem? (i := i) (by rw [List.getElem?_set, if_neg (fun e => hik e.symm)]; exact hi)) hf
  · obtain ⟨i, hi⟩ := List.getElem?_of_mem hd
    rcases hat i d hi with ⟨rfl, rfl⟩ | ⟨_, hi'⟩
    · exact (hb c hbe).2
    · exact h'.has d (List.mem_of_getElem? hi') c hbe
  · obtain ⟨i, hi⟩ := List.getElem?_of_mem hd
    rcases hat i d hi with ⟨rfl, rfl⟩ | ⟨_, hi'⟩
    · have := (hb c hbe).1; have := h.size; omega
    · exact h'.new d (List.mem_of_getElem? hi') hn' c hbe
  · rcases hat i ei hi with ⟨rfl, rfl⟩ | ⟨hik, hi'⟩ <;> rcases hat j ej hj with ⟨rfl, rfl⟩ | ⟨hjk, hj'⟩
    · rfl
    · have := h.lt (List.mem_of_getElem? hj') hbj; have := (hb c hbi).1; omega
    · have := h.lt (List.mem_of_getElem? hi') hbi; have := (hb c hbj).1; omega
    · exact h.once i j ei ej c hi' hj' hbi hbj
theorem set_self {H : List Ent} {k : Nat} {e : Ent} (hk : H[k]? = some e) : H.set k e = H := by
  apply List.ext_getElem?
  intro i
  rw [List.getElem?_set]
  by_cases h : k = i
  · subst h; rw [if_pos rfl, if_pos (List.getElem?_eq_some_iff.1 hk).1, hk]
  · rw [if_neg h]

theorem run_append_St {t ty e : TypeId} {z : Value} {by_ : Nat} (ht : P.underlying t = some (.slice e)) (hy : Ty P e z 1 by_) (hzc : z.cells.size = 1) {ob : Option Nat} {xs pad ys : List Value} {v : Value} (hS : St w0 w H) {k : Nat} (hk : H[k]? = some ⟨true, ob, blk e (xs ++ pad)⟩)
    (hob : ob = none → xs = [] ∧ pad = []) (hcap : xs.length + pad.length ≤ 9223372036854775807) (hr : Rd w v ys) (h1 : ∀ u ∈ ys, u.oneCell' = true) (hb : (xs.length + ys.length) * by_ ≤ 140737488355328) (hn : xs.length + ys.length ≤ 140737488355328) :
    ∃ ob' pad' w', (Builtin.append_ #[t, t] ty #[ownV ob xs.length (xs.length + pad.length), v]).run P w = .ok (ownV ob' (xs.length + ys.length) (xs.length + ys.length + pad'.length)) w' ∧
      (ob' = none → xs ++ ys = [] ∧ pad' = []) ∧ xs.length + ys.length + pad'.length ≤ 9223372036854775807 ∧ St w0 w' (H.set k ⟨true, ob', blk e ((xs ++ ys) ++ pad')⟩) := by
  obtain ⟨i, hi, h2, h3, h4⟩ := hy.get
  obtain ⟨A, c, rfl, hc1, hc2, hrd⟩ := hr.is
  -- what is owned, in the library's words
  have hown : w.ownsRow 0 e 1 (ownV ob xs.length (xs.length + pad.length)) xs.length xs := by
    refine ⟨by simp, ?_⟩
    cases ob with
    | none => obtain ⟨rfl, rfl⟩ := hob rfl; exact .inl ⟨rfl, rfl⟩
    | some b =>
      refine .inr ⟨b, xs.length + pad.length, (xs ++ pad).toArray, rfl, Nat.zero_le _, hS.has _ (List.mem_of_getElem? hk) b rfl, by omega, by simpa [maxLen] using hcap, by simp, by simp⟩
  cases hys : ys with
  | nil =>
    subst hys
    refine ⟨ob, pad, w, ?_, fun h => by simpa using hob h, by simpa using hcap, by simpa [set_self hk] using hS⟩
    cases ob with
    | none =>
      obtain ⟨rfl, rfl⟩ := hob rfl
      cases A <;> simp [ownV, Builtin.append_, run_und ht, run_sizeOf hy.size, Builtin.lenOf, Builtin.firstCells, loadCells, loadCellsFrom]
    | some b =>
      cases A <;> simp [ownV, Builtin.append_, run_und ht, run_sizeOf hy.size, Builtin.lenOf, Builtin.firstCells, loadCells, loadCellsFrom, storeCells]
  | cons y ys' =>
    rw [← hys]
    have hpos : 0 < ys.length := by rw [hys]; simp
    obtain ⟨b, off, rfl, hcell⟩ := hrd hpos
    obtain ⟨v', w', hrun, hown', hg, _, hblk⟩ := run_append_own_at (P := P) w 0 t ty e i z 1 by_ ht hi h2 h3 h4 hzc (by omega) _ _ _ hown ⟨b, off, none⟩ ys.length c ys (by simp) (fun j u hu => by rw [add_lit]; exact hcell j u hu) h1
      (by simp only [maxLen]; omega) hb (Nat.zero_le _)
    rcases hown'.2 with ⟨_, h0⟩ | ⟨g, cap, cur, rfl, _, hh, hle, hm, hcs, htk⟩
    · omega
    · have hsplit : cur = ((xs ++ ys) ++ cur.toList.drop (xs.length + ys.length)).toArray := by
        apply Array.ext'
        rw [← htk]
        simp
      have hpad : (cur.toList.drop (xs.length + ys.length)).length = cap - (xs.length + ys.length) := by
        rw [List.length_drop, Array.length_toList, hcs]; simp
      have hcapeq : xs.length + ys.length + (cur.toList.drop (xs.length + ys.length)).length = cap := by rw [hpad]; omega
      refine ⟨some g, cur.toList.drop (xs.length + ys.length), w', (by rw [hcapeq]; exact hrun), fun h => (by cases h), (by rw [hcapeq]; simpa [maxLen] using hm), ?_⟩
      have hh' : w'.heap[g]? = some (blk e ((xs ++ ys) ++ cur.toList.drop (xs.length + ys.length))) := by
        unfold blk; rw [← hsplit]; exact hh
      rcases hblk with hsame | hnew
      · cases ob with
        | none => simp [ownV, Value.ownBlock] at hsame
        | some b0 =>
          have hgb : g = b0 := by simpa [ownV, Value.ownBlock] using hsame
          subst hgb
          exact hS.turn hk hg.os hg.tape hg.output hg.size hh' fun c hc hne => hg.block c hc (by simp [ownV, Value.ownBlock, hne])
      · have hgn : g = w.heap.size := by simpa [Value.ownBlock] using hnew
        -- the old row stays what it was, whatever the law says of it: it may have been written only in place
        by_cases hob0 : ob = none
        · subst hob0
          refine hS.swap hk rfl ⟨hg.os, hg.tape, hg.output, hg.size, fun c hc => hg.block c hc (by simp [ownV, Value.ownBlock])⟩ (some g) _ fun b hb => ?_
          injection hb with hb
          subst hb
          exact ⟨by omega, hh'⟩
        · obtain ⟨b0, rfl⟩ := Option.ne_none_iff_exists'.1 hob0
          -- forget the old row's content first
          have hdrop : St w0 w' (H.set k ⟨true, some g, blk e ((xs ++ ys) ++ cur.toList.drop (xs.length + ys.length))⟩) := by
            have hkl : k < H.length := (List.getElem?_eq_some_iff.1 hk).1
            have hlt : b0 < w.heap.size := hS.lt (List.mem_of_getElem? hk) rfl
            -- in between: the world with nothing known of block b0
            have hS1 : St w0 w (H.set k ⟨true, none, blk e []⟩) := hS.swap hk rfl (Ext.refl w) none _ fun b hb => by cases hb
            have hk1 : (H.set k ⟨true, none, blk e []⟩)[k]? = some ⟨true, none, blk e []⟩ := by rw [List.getElem?_set, if_pos rfl, if_pos hkl]
            have hne : ∀ d ∈ H.set k ⟨true, none, blk e []⟩, d.ob ≠ some b0 := by
              intro d hd hdb
              obtain ⟨j, hj⟩ := List.getElem?_of_mem hd
              rw [List.getElem?_set] at hj
              by_cases hjk : k = j
              · subst hjk
                rw [if_pos rfl, if_pos hkl] at hj
                injection hj with hj
                subst hj
                cases hdb
              · rw [if_neg hjk] at hj
                exact hjk (hS.once k j _ d b0 hk hj rfl hdb)
            have hnew0 : w0.heap.size ≤ b0 := hS.new _ (List.mem_of_getElem? hk) rfl b0 rfl
            have hS2 : St w0 w' (H.set k ⟨true, none, blk e []⟩) :=
              ⟨hg.os.trans hS1.os, hg.tape.trans hS1.tape, hg.output.trans hS1.output, Nat.le_trans hS1.size hg.size,
                fun c hc hn => (hg.block c (Nat.lt_of_lt_of_le hc hS1.size) (by simp [ownV, Value.ownBlock]; omega)).trans (hS1.old c hc hn),
                fun d hd c hdc => (hg.block c (hS1.lt hd hdc) (by simp only [ownV, Value.ownBlock, ne_eq, Option.some.injEq]; rintro rfl; exact hne d hd hdc)).trans (hS1.has d hd c hdc), hS1.new, hS1.once⟩
            have hlts : ∀ d ∈ H.set k ⟨true, none, blk e []⟩, ∀ c, d.ob = some c → c < w.heap.size := hS1.lts
            have := St.attach (w := w) hS2 hlts hS.size (some g) (blk e ((xs ++ ys) ++ cur.toList.drop (xs.length + ys.length))) fun b hb => by
              injection hb with hb
              subst hb
              exact ⟨by omega, hh'⟩
            -- from the head of the list to its place
            refine ⟨this.os, this.tape, this.output, this.size, fun c hc hn => this.old c hc fun d hd hf => ?_, fun d hd => this.has d ?_, fun d hd => this.new d ?_, fun i j ei ej c hi hj h1 h2 => ?_⟩
            · rcases List.mem_cons.1 hd with rfl | hd
              · cases hf
              · obtain ⟨j, hj⟩ := List.getElem?_of_mem hd
                rw [List.getElem?_set] at hj
                by_cases hjk : k = j
                · subst hjk
                  rw [if_pos rfl, if_pos hkl] at hj
                  injection hj with hj
                  subst hj
                  cases hf
                · rw [if_neg hjk] at hj
                  exact hn d (List.mem_of_getElem? (i := j) (by rw [List.getElem?_set, if_neg hjk]; exact hj)) hf
            · obtain ⟨j, hj⟩ := List.getElem?_of_mem hd
              rw [List.getElem?_set] at hj
              by_cases hjk : k = j
              · subst hjk
                rw [if_pos rfl, if_pos hkl] at hj
                injection hj with hj
                subst hj
                exact List.mem_cons_self
              · rw [if_neg hjk] at hj
                exact List.mem_cons_of_mem _ (List.mem_of_getElem? (i := j) (by rw [List.getElem?_set, if_neg hjk]; exact hj))
            · obtain ⟨j, hj⟩ := List.getElem?_of_mem hd
              rw [List.getElem?_set] at hj
              by_cases hjk : k = j
              · subst hjk
                rw [if_pos rfl, if_pos hkl] at hj
                injection hj with hj
                subst hj
                exact List.mem_cons_self
              · rw [if_neg hjk] at hj
                exact List.mem_cons_of_mem _ (List.mem_of_getElem? (i := j) (by rw [List.getElem?_set, if_neg hjk]; exact hj))
            · have place : ∀ i d, (H.set k ⟨true, some g, blk e ((xs ++ ys) ++ cur.toList.drop (xs.length + ys.length))⟩)[i]? = some d →
                  ((⟨true, some g, blk e ((xs ++ ys) ++ cur.toList.drop (xs.length + ys.length))⟩ : Ent) :: H.set k ⟨true, none, blk e []⟩)[if i = k then 0 else i + 1]? = some d := fun i d hi => by
                rw [List.getElem?_set] at hi
                by_cases hik : k = i
                · subst hik
                  rw [if_pos rfl, if_pos hkl] at hi
                  simpa using hi
                · rw [if_neg hik] at hi
                  rw [if_neg (fun e => hik e.symm)]
                  simp only [List.getElem?_cons_succ]
                  rw [List.getElem?_set, if_neg hik]
                  exact hi
              have := this.once _ _ ei ej c (place i ei hi) (place j ej hj) h1 h2
              split at this <;> split at this <;> omega
          exact hdrop

theorem run_appendOp {x y : Operand} {t : TypeId} {s v r : Value} {w' : World} (ho : o.op = .call { callee := .builtin .append, args := #[x, y], argTypes := #[t, t] }) (hx : a.eval x = s) (hy : a.eval y = v) (hr : (Builtin.append_ #[t, t] o.type #[s, v]).run P w = .ok r w') :
    (execOp a.eval o).run P w = .ok (.value r) w' := by
  unfold execOp
  rw [ho]
  simp [resolve, invoke, builtin, hx, hy, hr]
theorem stp_append {x y : Operand} {t e : TypeId} {z : Value} {by_ : Nat} {ob : Option Nat} {xs pad ys : List Value} {v : Value} {d k : Nat} (hF : Fr N a m) (hw : Region.wanted o (yielded ops a.tmps) = true) (hd : o.dst = some d) (hN : Nat.blt d N = true)
    (ho : o.op = .call { callee := .builtin .append, args := #[x, y], argTypes := #[t, t] }) (ht : P.underlying t = some (.slice e)) (hty : Ty P e z 1 by_) (hzc : z.cells.size = 1)
    (hx : a.eval x = ownV ob xs.length (xs.length + pad.length)) (hy : a.eval y = v) (hS : St w0 w H) (hk : H[k]? = some ⟨true, ob, blk e (xs ++ pad)⟩) (hob : ob = none → xs = [] ∧ pad = []) (hcap : xs.length + pad.length ≤ 9223372036854775807)
    (hr : Rd w v ys) (h1 : ∀ u ∈ ys, u.oneCell' = true) (hb : (xs.length + ys.length) * by_ ≤ 140737488355328) (hn : xs.length + ys.length ≤ 140737488355328)
    (h : ∀ ob' pad' a' w', Fr N a' ((d, ownV ob' (xs.length + ys.length) (xs.length + ys.length + pad'.length)) :: m) → (ob' = none → xs ++ ys = [] ∧ pad' = []) → xs.length + ys.length + pad'.length ≤ 9223372036854775807 →
      St w0 w' (H.set k ⟨true, ob', blk e ((xs ++ ys) ++ pad')⟩) → K a' w') : Stp P ops Q o a w K := by
  obtain ⟨ob', pad', w', hrun, h2, h3, h4⟩ := run_append_St (ty := o.type) ht hty hzc hS hk hob hcap hr h1 hb hn
  exact stp_val hF hw hd hN (run_appendOp ho hx hy hrun) fun a' hF' => h ob' pad' a' w' hF' h2 h3 h4

/-! ### The head of a region that draws -/
variable {fl : List Nat} {KK : Act → Prop} {i : Nat}
theorem dw_gv (hF : Fr N a m) (hfl : fl.contains i = false) (hw : Region.wanted o (yielded ops a.tmps) = true) {d : Nat} {v : Value} (hd : o.dst = some d) (hN : Nat.blt d N = true) (hv : ∀ w', Ext w w' → Gv P o a w' v) (h : ∀ a', Fr N a' ((d, v) :: m) → dwalk P ops w fl KK (i + 1) rest a') :
    dwalk P ops w fl KK i (o :: rest) a := by
  unfold dwalk
  rw [if_neg (by simpa using hfl)]
  exact .inl ⟨hw, v, fun w' hx => .inl (hv w' hx), by rw [hd]; exact h _ (hF.put v hN)⟩
theorem dw_skip (hF : Fr N a m) (hfl : fl.contains i = false) (hw : Region.wanted o (yielded ops a.tmps) = false) {d : Nat} (hd : o.dst = some d) (hN : Nat.blt d N = true) (h : ∀ a', Fr N a' ((d, undef) :: m) → dwalk P ops w fl KK (i + 1) rest a') :
    dwalk P ops w fl KK i (o :: rest) a := by
  unfold dwalk
  rw [if_neg (by simpa using hfl)]
  exact .inr ⟨hw, by rw [hd]; exact h _ (hF.put _ hN)⟩
theorem dw_call {f : FuncId} {xs : List Operand} {vs : List Value} {ats : Array TypeId} (hF : Fr N a m) (hfl : fl.contains i = false) (hw : Region.wanted o (yielded ops a.tmps) = true) {d : Nat} {v : Value} (hd : o.dst = some d) (hN : Nat.blt d N = true) (hf : CallOk P f)
    (ho : o.op = .call { callee := .value (.func f), args := xs.toArray, argTypes := ats }) (hx : Evs a xs vs) (hc : ∀ w', Ext w w' → Calls P f vs.toArray w' fun e w'' => e = .returned v ∧ Ext w' w'')
    (h : ∀ a', Fr N a' ((d, v) :: m) → dwalk P ops w fl KK (i + 1) rest a') : dwalk P ops w fl KK i (o :: rest) a := by
  unfold dwalk
  rw [if_neg (by simpa using hfl)]
  exact .inl ⟨hw, v, fun w' hx' => .inr (.inr ⟨f, _, run_callOp hf ho hx, hc w' hx'⟩), by rw [hd]; exact h _ (hF.put v hN)⟩
theorem dw_fl (hfl : fl.contains i = true) (h : dwalk P ops w fl KK (i + 1) rest a) : dwalk P ops w fl KK i (o :: rest) a := by
  unfold dwalk
  rw [if_pos (by simpa using hfl)]
  exact h
theorem dw_nil (h : KK a) : dwalk P ops w fl KK i [] a := h
theorem dwalk_mono {KK' : Act → Prop} (hk : ∀ A, KK A → KK' A) : ∀ (l : List Oper) (i : Nat) (a : Act), dwalk P ops w fl KK i l a → dwalk P ops w fl KK' i l a
  | [], _, a, h => hk a h
  | o :: l, i, a, h => by
    unfold dwalk at h ⊢
    split
    · rename_i hf; rw [if_pos hf] at h; exact dwalk_mono hk l _ _ h
    · rename_i hf
      rw [if_neg hf] at h
      rcases h with ⟨hw, v, hv, h⟩ | ⟨hw, h⟩
      · exact .inl ⟨hw, v, hv, dwalk_mono hk l _ _ h⟩
      · exact .inr ⟨hw, dwalk_mono hk l _ _ h⟩
/-- A head without new memory. -/
theorem run_head0 {n0 n : Nat} (l : List Oper) (hF : Fr N a m) (hB : headB ops N n0 n [] = true) (hl : (ops.toList.drop n0).take (n - n0) = l)
    (h : dwalk P ops w [] (fun A => ∀ a' w', (∀ mm, Fr N A mm → Fr N a' mm) → Ext w w' → Run P ops Q n a' w') n0 l a) : Run P ops Q n0 a w := by
  refine run_head N n0 n [] (fun _ _ _ => True) l hB hl hF.size (fun _ _ _ _ _ _ => trivial)
    (dwalk_mono (fun A hA => ⟨fun i o _ _ _ hf => (by cases hf), fun a' w' hx hs hd hsl _ => hA a' w' (fun mm hm => ⟨hs, hd.trans hF.dfs, fun t v hv => ?_⟩) hx⟩) _ _ _ h)
  rw [hsl t fun i o _ _ _ hf => (by cases hf)]
  exact hm.get t v hv
/-- A head with one operation that lays new memory, of whose value 'R' is known. -/
theorem run_head1 {n0 n : Nat} (l : List Oper) (i1 d1 : Nat) (o1 : Oper) (R : Value → World → Prop) (hF : Fr N a m) (hB : headB ops N n0 n [i1] = true) (hl : (ops.toList.drop n0).take (n - n0) = l) (ho1 : ops[i1]? = some o1) (hd1 : o1.dst = some d1) (hR : Lasts R)
    (h : dwalk P ops w [i1] (fun A => FO P w o1 A R ∧ ∀ a' w' v, R v w' → (∀ mm, Fr N A mm → Fr N a' ((d1, v) :: mm)) → Ext w w' → Run P ops Q n a' w') n0 l a) (h1 : n0 ≤ i1) (h2 : i1 < n) : Run P ops Q n0 a w := by
  refine run_head N n0 n [i1] (fun _ => R) l hB hl hF.size (fun _ => hR)
    (dwalk_mono (fun A hA => ⟨fun i o _ _ ho hf => ?_, fun a' w' hx hs hd hsl hr => ?_⟩) _ _ _ h)
  · have : i = i1 := by simpa using hf
    subst this
    have : o = o1 := Option.some.inj (ho.symm.trans ho1)
    subst this
    exact hA.1
  · refine hA.2 a' w' (slot a' d1) (hr i1 o1 d1 h1 h2 ho1 (by simp) hd1) (fun mm hm => ⟨hs, hd.trans hF.dfs, fun t v hv => ?_⟩) hx
    by_cases ht : t = d1
    · subst ht
      rw [look_cons_eq] at hv
      injection hv
    · rw [look_cons_ne ht] at hv
      rw [hsl t fun i o _ _ ho hf hdt => ?_]
      · exact hm.get t v hv
      · have : i = i1 := by simpa using hf
        subst this
        have : o = o1 := Option.some.inj (ho.symm.trans ho1)
        subst this
        rw [hd1] at hdt
        injection hdt with hdt
        exact ht hdt.symm
end
end Go.Fw

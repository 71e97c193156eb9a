/- What is proved: operations on strings made of bytes, on arrays of bytes, slices that are built. -/
import Derived.Test.YtbggihomiadjjaaGreatDoorFwRef
import Derived.Laws.BytesArg
import Derived.Great.BuildSlice
import Derived.Stop.BytesEq
set_option linter.unusedVariables false
set_option linter.unusedSimpArgs false
namespace Go.Fw
open Go Go.RowKit

section
variable {P : Program} {N : Nat} {a : Act} {w w0 : World} {m : List (Nat × Value)} {H : List Ent} {o : Oper} {ops : Array Oper} {K : Act → World → Prop} {Q : Exit → Act → World → Prop} {x y : Operand} {t t' d s e : TypeId}
/-- A string of bytes. -/
def sV (l : List UInt8) : Value := .string ⟨l.toArray⟩
theorem sV_toList (l : List UInt8) : (ByteArray.mk l.toArray).toList = l := by rw [ByteArray.toList_eq]
theorem beqd (l l' : List UInt8) : (l == l') = decide (l = l') := by rw [Bool.eq_iff_iff]; simp
theorem sV_size (l : List UInt8) : (ByteArray.mk l.toArray).size = l.length := by simp [ByteArray.size]
theorem gv_convStr {v : Value} {l : List UInt8} (ho : o.op = .convert s d x) (hs : P.underlying s = some (.slice e)) (he : P.underlying e = some (.int .u8)) (hd : P.underlying d = some .string) (hx : a.eval x = v) (hr : Rd w v (l.map vB)) : Gv P o a w (sV l) := by
  have key : (convert s d v).run P w = .ok (sV l) w := by
    obtain ⟨A, c, rfl, h1, h2, h3⟩ := hr.isB
    cases A with
    | none =>
      have hl : l = [] := by
        cases l with
        | nil => rfl
        | cons z l => obtain ⟨b, o, hb, _⟩ := h3 (by simp); cases hb
      subst hl
      exact run_convert_bytes_nil w s e hs he _ _ d hd
    | some A =>
      obtain ⟨b, off, sp⟩ := A
      by_cases hl : 0 < l.length
      · obtain ⟨b', o', hb, hc⟩ := h3 hl
        injection hb with hb
        injection hb with hb1 hb2 hb3
        subst hb1 hb2 hb3
        have := run_convert_bytes_arg w s e hs he b off l.length c (l.map fun z => (z.toNat : Int)) (by simp) (fun i hi => by
          rw [hc i hi]
          simp [vB, List.getD_eq_getElem?_getD, List.getElem?_map, List.getElem?_eq_getElem hi]) d hd
        rw [this]
        simp [strOfNums, sV, Function.comp_def]
      · have hl : l = [] := List.length_eq_zero_iff.1 (by omega)
        subst hl
        rw [run_convert_bytes_string w s d e _ _ _ hs he hd]
        have := run_bytesToString (P := P) w ⟨b, off, sp⟩ 0 c [] (by rfl)
        exact this
  simp [Gv, execOp, ho, hx, key]
theorem gv_str (op : BinOp) (ho : o.op = .binOp op t x y t') {p q v : Value} (hp : ∃ s, p = .string s) (hx : a.eval x = p) (hy : a.eval y = q) (hr : (binOp op t p q).run P w = .ok v w) : Gv P o a w v := by
  obtain ⟨s, rfl⟩ := hp
  simp [Gv, execOp, ho, hx, hy, eqGuard_at_string, hr]
theorem gv_strEql {l l' : List UInt8} (ho : o.op = .binOp .eql t x y t') (hx : a.eval x = sV l) (hy : a.eval y = sV l') : Gv P o a w (.bool (decide (l = l'))) :=
  gv_str .eql ho ⟨_, rfl⟩ hx hy (by
    show Result.ok (Value.bool ((ByteArray.mk l.toArray).toList == (ByteArray.mk l'.toArray).toList)) w = _
    rw [sV_toList, sV_toList, beqd])
theorem gv_strNeq {l l' : List UInt8} (ho : o.op = .binOp .neq t x y t') (hx : a.eval x = sV l) (hy : a.eval y = sV l') : Gv P o a w (.bool (decide (l ≠ l'))) :=
  gv_str .neq ho ⟨_, rfl⟩ hx hy (by
    show Result.ok (Value.bool (!((ByteArray.mk l.toArray).toList == (ByteArray.mk l'.toArray).toList))) w = _
    rw [sV_toList, sV_toList, beqd, decide_not])
theorem gv_strAdd {l l' : List UInt8} (ho : o.op = .binOp .add t x y t') (hx : a.eval x = sV l) (hy : a.eval y = sV l') (h : l.length + l'.length ≤ 9223372036854775807) : Gv P o a w (sV (l ++ l')) :=
  gv_str .add ho ⟨_, rfl⟩ hx hy (by
    show (Op.stringOp .add _ _).run P w = _
    unfold Op.stringOp
    simp only [sV_size]
    rw [if_neg (by rw [IntKind.max_i64]; omega)]
    simp [sV]
    rfl)
theorem gv_aggEql {l l' : List UInt8} {n : Nat} (ho : o.op = .binOp .eql t x y t') (ht : P.underlying t = some (.array n e)) (he : P.underlying e = some (.int .u8)) (hz : (P.info? e).map (·.size) = some 1) (hq : P.eqGuardType P.depth t = false) (hx : a.eval x = .agg (l.map vB).toArray) (hy : a.eval y = .agg (l'.map vB).toArray) (h1 : l.length = n) (h2 : l'.length = n) : Gv P o a w (.bool (decide (l = l'))) := by
  have h := run_eql_bytes (P := P) w t e n ht he (fun w => run_sizeOf hz w) l l' h1 h2
  have hg : (eqGuard .eql t x y (.agg (l.map vB).toArray) (.agg (l'.map vB).toArray)).run P w = .ok () w := by
    simp [eqGuard, hq]
  have h' : (binOp .eql t (.agg (l.map vB).toArray) (.agg (l'.map vB).toArray)).run P w = .ok (.bool (l == l')) w := h
  have hb : (l == l') = decide (l = l') := beqd l l'
  simp [Gv, execOp, ho, hx, hy, hg, h', hb]
theorem ownV_pos {ob : Option Nat} {n c hi : Nat} (h : ob = none → n = 0 ∧ c = 0) (hh : hi ≤ c) : ∃ A, ownV ob n c = .slice A n c ∧ ownV ob hi c = .slice A hi c := by
  cases ob with
  | none => obtain ⟨rfl, rfl⟩ := h rfl; obtain rfl : hi = 0 := (by omega); exact ⟨none, rfl, rfl⟩
  | some b => exact ⟨some ⟨b, 0, none⟩, rfl, rfl⟩
theorem gv_sliceHiOwn {ob : Option Nat} {n c hi : Nat} (ho : o.op = .slice t x none (some y) none) (ht : P.underlying t = some (.slice e)) (hz : (P.info? e).map (·.size) = some 1) (hx : a.eval x = ownV ob n c) (hob : ob = none → n = 0 ∧ c = 0) (hy : a.eval y = vI hi) (h : hi ≤ c) : Gv P o a w (ownV ob hi c) := by
  obtain ⟨A, h1, h2⟩ := ownV_pos hob h
  rw [h1] at hx
  rw [h2]
  exact gv_sliceHi ho ht hz hx hy h
theorem stp_build1 {v : UInt8} {z : Operand} {k : Nat} (hF : Fr N a m) (hw : Region.wanted o (yielded ops a.tmps) = true) (hd : o.dst = some k) (hN : Nat.blt k N = true) (ho : o.op = .buildSlice t 1 #[(0, z)]) (ht : P.underlying t = some (.slice e)) {by_ : Nat} (hty : Ty P e (.int .u8 0) 1 by_) (hz : a.eval z = vB v) (hS : St w0 w H)
    (h : ∀ b a' w', Fr N a' ((k, .slice (some ⟨b, 0, none⟩) 1 1) :: m) → St w0 w' (⟨true, some b, blkB e [v]⟩ :: H) → K a' w') : Stp P ops Q o a w K := by
  obtain ⟨i, h1, h2, h3, h4⟩ := hty.get
  refine stp_val hF hw hd hN (w' := w.alloc (.cells [vB v].toArray e)) ?_ fun a' hF' => h _ a' _ hF' (hS.alloc _)
  have := run_buildSlice (P := P) w t e 1 #[(0, vB v)] [vB v].toArray i (.int .u8 0) ht h1 h2 (by rw [h3]; decide) (by rw [h3]; decide) (by
    rw [h3, show (Array.range (1 * 1)).map (fun j => (Value.int .u8 0).cells[j % (Value.int .u8 0).cells.size]!) = #[.int .u8 0] from by rw [show Array.range (1 * 1) = #[0] from by decide]; simp [Value.cells]]
    refine (fill_cons (place := fun i => some (i * 1, 1)) (v := vB v) (i := 0) (rest := []) (zs := [.int .u8 0]) (vs := [vB v]) (off := 0) rfl rfl (by simp)).trans ?_
    rw [fill_nil]; rfl)
  simp [execOp, ho, hz, this]
end
end Go.Fw
namespace Go.Fw
open Go Go.RowKit
section
variable {P : Program} {N : Nat} {a : Act} {w w0 : World} {m : List (Nat × Value)} {H : List Ent} {o : Oper} {ops : Array Oper} {K : Act → World → Prop} {Q : Exit → Act → World → Prop} {x y : Operand} {t t' d s e : TypeId}
/-- A head with two operations that lay new memory. -/
theorem run_head2 {n0 n : Nat} (l : List Oper) (i1 d1 i2 d2 : Nat) (o1 o2 : Oper) (R1 R2 : Value → World → Prop) (hF : Fr N a m) (hB : headB ops N n0 n [i1, i2] = true) (hl : (ops.toList.drop n0).take (n - n0) = l) (ho1 : ops[i1]? = some o1) (hd1 : o1.dst = some d1) (hR1 : Lasts R1)
    (ho2 : ops[i2]? = some o2) (hd2 : o2.dst = some d2) (hR2 : Lasts R2) (hi : i1 ≠ i2) (hdd : d1 ≠ d2)
    (h : dwalk P ops w [i1, i2] (fun A => (FO P w o1 A R1 ∧ FO P w o2 A R2) ∧ ∀ a' w' v v', R1 v w' → R2 v' w' → (∀ mm, Fr N A mm → Fr N a' ((d1, v) :: (d2, v') :: mm)) → Ext w w' → Run P ops Q n a' w') n0 l a) (h1 : n0 ≤ i1) (h2 : i1 < n) (h3 : n0 ≤ i2) (h4 : i2 < n) : Run P ops Q n0 a w := by
  have hin : ∀ i, i ∈ [i1, i2] → i = i1 ∨ i = i2 := fun i hi => by simpa using hi
  refine run_head N n0 n [i1, i2] (fun i => if i = i1 then R1 else R2) l hB hl hF.size (fun j => by
    show Lasts (if j = i1 then R1 else R2)
    split
    · exact hR1
    · exact hR2)
    (dwalk_mono (fun A hA => ⟨fun i o _ _ ho hf => ?_, fun a' w' hx hs hd hsl hr => ?_⟩) _ _ _ h)
  · rcases hin i hf with rfl | rfl
    · have : o = o1 := Option.some.inj (ho.symm.trans ho1)
      subst this
      show FO P w o A (if i = i then R1 else R2)
      rw [if_pos rfl]; exact hA.1.1
    · have : o = o2 := Option.some.inj (ho.symm.trans ho2)
      subst this
      show FO P w o A (if i = i1 then R1 else R2)
      rw [if_neg (Ne.symm hi)]; exact hA.1.2
  · have q1 := hr i1 o1 d1 h1 h2 ho1 (by simp) hd1
    have q2 := hr i2 o2 d2 h3 h4 ho2 (by simp) hd2
    simp only [if_true] at q1
    simp only [if_neg (Ne.symm hi)] at q2
    refine hA.2 a' w' (slot a' d1) (slot a' d2) q1 q2 (fun mm hm => ⟨hs, hd.trans hF.dfs, fun t v hv => ?_⟩) hx
    by_cases ht : t = d1
    · subst ht
      rw [look_cons_eq] at hv
      injection hv
    · rw [look_cons_ne ht] at hv
      by_cases ht2 : t = d2
      · subst ht2
        rw [look_cons_eq] at hv
        injection hv
      · rw [look_cons_ne ht2] at hv
        rw [hsl t fun i o _ _ ho hf hdt => ?_]
        · exact hm.get t v hv
        · rcases hin i hf with rfl | rfl
          · have : o = o1 := Option.some.inj (ho.symm.trans ho1)
            subst this
            rw [hd1] at hdt
            injection hdt with hdt
            exact ht hdt.symm
          · have : o = o2 := Option.some.inj (ho.symm.trans ho2)
            subst this
            rw [hd2] at hdt
            injection hdt with hdt
            exact ht2 hdt.symm
/-- A new slice of zeros, to be read. -/
def FlR (xs : List Value) : Value → World → Prop := fun v w => Rd w v xs
theorem FlR.lasts (xs : List Value) : Lasts (FlR xs) := fun v w1 w2 h hx => h.ext hx
theorem fo_makeR {z : Value} {by_ n : Nat} (ho : o.op = .makeSlice t x y) (ht : P.underlying t = some (.slice e)) (hy : Ty P e z 1 by_) (hz : z.cells = #[z]) (hx : a.eval x = vI n) (hx' : a.eval y = vI n) (hb : by_ * n ≤ 140737488355328) (hn : n ≤ 140737488355328) : FO P w o a (FlR (List.replicate n z)) := fun w1 hw => by
  rcases fo_make ho ht hy hz hx hx' hb hn w1 hw with ⟨v, w2, h1, h2, b, rfl, h3, h4⟩ | ⟨f, args, h1, h2⟩
  · refine .inl ⟨_, w2, h1, h2, ?_⟩
    have := (St.first h4).rdOf (k := 0) rfl 0 n n (by simp) (Nat.le_refl _) (by omega)
    simpa [FlR] using this
  · refine .inr ⟨f, args, h1, h2.mono fun e w' ⟨v, he, hx, b, hv, hb, hh⟩ => ⟨v, he, hx, ?_⟩⟩
    subst hv
    have := (St.first hh).rdOf (k := 0) rfl 0 n n (by simp) (Nat.le_refl _) (by omega)
    simpa [FlR] using this
end
end Go.Fw
namespace Go.Fw
open Go Go.RowKit
section
variable {w w0 : World} {H : List Ent}
theorem rd_own_take {nw : Bool} {ob : Option Nat} {t : TypeId} {l : List UInt8} {pad : List Value} {hi n : Nat} (hS : St w0 w H) (he : ⟨nw, ob, blk t (l.map vB ++ pad)⟩ ∈ H) (hnw : ∀ e ∈ H, e.nw = true) (hob : ob = none → l = [] ∧ pad = []) (hl : l.length = n) (hc : n + pad.length ≤ 9223372036854775807) (hh : hi ≤ n) :
    Rd w (ownV ob hi (n + pad.length)) ((l.take hi).map vB) := by
  subst hl
  have h := (SRd.own (w0 := w0) (T := H) he (fun h => ⟨by rw [(hob h).1]; rfl, (hob h).2⟩) (by simpa using hc)) w H hS hnw (fun e h => h)
  rw [List.length_map] at h
  obtain ⟨A, h1, h2⟩ := ownV_pos (ob := ob) (n := l.length) (c := l.length + pad.length) (hi := hi) (fun h => by rw [(hob h).1, (hob h).2]; exact ⟨rfl, rfl⟩) (by omega)
  rw [h1] at h
  rw [h2, List.map_take]
  exact h.cutHi hh
theorem rd_own {nw : Bool} {ob : Option Nat} {t : TypeId} {l : List UInt8} {pad : List Value} {n : Nat} (hS : St w0 w H) (he : ⟨nw, ob, blk t (l.map vB ++ pad)⟩ ∈ H) (hnw : ∀ e ∈ H, e.nw = true) (hob : ob = none → l = [] ∧ pad = []) (hl : l.length = n) (hc : n + pad.length ≤ 9223372036854775807) :
    Rd w (ownV ob n (n + pad.length)) (l.map vB) := by
  subst hl
  have := rd_own_take hS he hnw hob rfl hc (Nat.le_refl _)
  rwa [List.take_length] at this
theorem rd_blkB {nw : Bool} {b n : Nat} {t : TypeId} {l : List UInt8} (hS : St w0 w H) (he : ⟨nw, some b, blkB t l⟩ ∈ H) (hl : l.length = n) (hn : n ≤ 9223372036854775807) : Rd w (.slice (some ⟨b, 0, none⟩) n n) (l.map vB) := by
  obtain ⟨k, hk⟩ := List.getElem?_of_mem he
  have := hS.rdOf hk 0 n n (by simp [hl]) (Nat.le_refl _) hn
  rwa [List.drop_zero, List.take_of_length_le (by simp [hl])] at this
/-- What a call returns can be read; the rest stands. -/
def RetRd (w : World) (l : List UInt8) : Ending → World → Prop := fun e w' => ∃ v, e = .returned v ∧ Rd w' v (l.map vB) ∧ Ext w w'
theorem rep_vB (n : Nat) : List.replicate n (Value.int .u8 0) = (List.replicate n (0 : UInt8)).map vB := by
  rw [List.map_replicate]; rfl
end
end Go.Fw
namespace Go.Fw
open Go Go.RowKit
section
variable {P : Program} {a : Act} {w : World} {o : Oper} {t e : TypeId}
theorem fo_build1 {v : UInt8} {z : Operand} (ho : o.op = .buildSlice t 1 #[(0, z)]) (ht : P.underlying t = some (.slice e)) {by_ : Nat} (hty : Ty P e (.int .u8 0) 1 by_) (hz : a.eval z = vB v) : FO P w o a (FlS w e 1 [vB v]) := fun w1 hx => by
  obtain ⟨i, h1, h2, h3, h4⟩ := hty.get
  have := run_buildSlice (P := P) w1 t e 1 #[(0, vB v)] [vB v].toArray i (.int .u8 0) ht h1 h2 (by rw [h3]; decide) (by rw [h3]; decide) (by
    rw [h3, show (Array.range (1 * 1)).map (fun j => (Value.int .u8 0).cells[j % (Value.int .u8 0).cells.size]!) = #[.int .u8 0] from by rw [show Array.range (1 * 1) = #[0] from by decide]; simp [Value.cells]]
    refine (fill_cons (place := fun i => some (i * 1, 1)) (v := vB v) (i := 0) (rest := []) (zs := [.int .u8 0]) (vs := [vB v]) (off := 0) rfl rfl (by simp)).trans ?_
    rw [fill_nil]; rfl)
  refine .inl ⟨_, _, ?_, Ext.alloc w1 _, w1.heap.size, rfl, hx.size, ((St.refl w1).alloc (blk e [vB v])).has _ List.mem_cons_self _ rfl⟩
  simp [execOp, ho, hz, this]
  rfl
end
end Go.Fw
namespace Go.Fw
open Go Go.RowKit
section
variable {P : Program} {a : Act} {w : World} {o : Oper} {x y : Operand} {t t' e : TypeId}
theorem gv_strEqlT {l l' : List UInt8} (ho : o.op = .binOp .eql t x y t') (hx : a.eval x = sV l) (hy : a.eval y = sV l') (h : l = l') : Gv P o a w (.bool true) := by
  have := gv_strEql (P := P) (w := w) ho hx hy; rwa [decide_eq_true h] at this
theorem gv_strNeqF {l l' : List UInt8} (ho : o.op = .binOp .neq t x y t') (hx : a.eval x = sV l) (hy : a.eval y = sV l') (h : l = l') : Gv P o a w (.bool false) := by
  have := gv_strNeq (P := P) (w := w) ho hx hy; rwa [decide_eq_false (fun g => g h)] at this
theorem gv_aggEqlT {l l' : List UInt8} {n : Nat} (ho : o.op = .binOp .eql t x y t') (ht : P.underlying t = some (.array n e)) (he : P.underlying e = some (.int .u8)) (hz : (P.info? e).map (·.size) = some 1) (hq : P.eqGuardType P.depth t = false) (hx : a.eval x = .agg (l.map vB).toArray) (hy : a.eval y = .agg (l'.map vB).toArray) (h1 : l.length = n) (h2 : l'.length = n) (h : l = l') : Gv P o a w (.bool true) := by
  have := gv_aggEql (P := P) (w := w) ho ht he hz hq hx hy h1 h2; rwa [decide_eq_true h] at this
end
end Go.Fw

/- What is proved: slices with three bounds, slices against nil, slices of four bytes that are built. -/
import Derived.Test.YtfhalnobaeogkaaDoorFwApp
set_option linter.unusedVariables false
set_option linter.unusedSimpArgs false
namespace Go.Fw
open Go Go.RowKit
section
variable {P : Program} {N : Nat} {a : Act} {w w0 : World} {m : List (Nat × Value)} {H : List Ent} {o : Oper} {ops : Array Oper} {K : Act → World → Prop} {Q : Exit → Act → World → Prop} {x y z y' : Operand} {t t' e : TypeId} {A : Option Addr} {n c l h mx : Nat}
def cut3V (A : Option Addr) (l h mx : Nat) : Value := .slice (if mx = l then A else A.map (·.add l)) (h - l) (mx - l)
theorem gv_slice3 (ho : o.op = .slice t x (some y') (some y) (some z)) (ht : P.underlying t = some (.slice e)) (hz : (P.info? e).map (·.size) = some 1) (hx : a.eval x = .slice A n c) (hl : a.eval y' = vI l) (hh : a.eval y = vI h) (hm : a.eval z = vI mx) (h1 : l ≤ h) (h2 : h ≤ mx) (h3 : mx ≤ c) : Gv P o a w (cut3V A l h mx) := by
  unfold Gv execOp; rw [ho]
  have g1 : (0 : Int) ≤ (l : Int) ∧ (l : Int) ≤ (h : Int) := ⟨by omega, by omega⟩
  have g2 : (0 : Int) ≤ (h : Int) ∧ (h : Int) ≤ (mx : Int) := ⟨by omega, by omega⟩
  have g3 : (0 : Int) ≤ (mx : Int) ∧ (mx : Int) ≤ (c : Int) := ⟨by omega, by omega⟩
  simp [hx, hl, hh, hm, vI, Instr.sliceAt, Instr.slice, run_und ht, Instr.sliceBounds, Instr.sliceBound, asIntOf, g1, g2, g3, h1, h2, h3, Fw.run_sizeOf hz, cut3V]
theorem gv_slice2 (ho : o.op = .slice t x (some y') (some y) none) (ht : P.underlying t = some (.slice e)) (hz : (P.info? e).map (·.size) = some 1) (hx : a.eval x = .slice A n c) (hl : a.eval y' = vI l) (hh : a.eval y = vI h) (h1 : l ≤ h) (h3 : h ≤ c) : Gv P o a w (cut3V A l h c) := by
  unfold Gv execOp; rw [ho]
  have g1 : (0 : Int) ≤ (l : Int) ∧ (l : Int) ≤ (h : Int) := ⟨by omega, by omega⟩
  have g3 : (0 : Int) ≤ (h : Int) ∧ (h : Int) ≤ (c : Int) := ⟨by omega, by omega⟩
  simp [hx, hl, hh, vI, Instr.sliceAt, Instr.slice, run_und ht, Instr.sliceBounds, Instr.sliceBound, asIntOf, g1, g3, h1, h3, Fw.run_sizeOf hz, cut3V]
/-- x[:h:m]. -/
theorem gv_sliceHM (ho : o.op = .slice t x none (some y) (some z)) (ht : P.underlying t = some (.slice e)) (hz : (P.info? e).map (·.size) = some 1) (hx : a.eval x = .slice A n c) (hh : a.eval y = vI h) (hm : a.eval z = vI mx) (h2 : h ≤ mx) (h3 : mx ≤ c) : Gv P o a w (.slice A h mx) := by
  unfold Gv execOp; rw [ho]
  have g2 : (0 : Int) ≤ (h : Int) ∧ (h : Int) ≤ (mx : Int) := ⟨by omega, by omega⟩
  have g3 : (0 : Int) ≤ (mx : Int) ∧ (mx : Int) ≤ (c : Int) := ⟨by omega, by omega⟩
  by_cases hc : mx = 0
  · have : h = 0 := by omega
    subst this; subst hc
    simp [hx, hh, hm, vI, Instr.sliceAt, Instr.slice, run_und ht, Instr.sliceBounds, Instr.sliceBound, asIntOf, Fw.run_sizeOf hz]
  · cases A <;> simp [hx, hh, hm, vI, Instr.sliceAt, Instr.slice, run_und ht, Instr.sliceBounds, Instr.sliceBound, asIntOf, g2, g3, h2, h3, Fw.run_sizeOf hz, hc, Addr.add]
/-- x[:h] of an array behind its address. -/
theorem gv_sliceArrHi {b off : Nat} (ho : o.op = .slice t x none (some y) none) (ht : P.underlying t = some (.array n e)) (hz : (P.info? e).map (·.size) = some 1) (hx : a.eval x = .pointer (some ⟨b, off, none⟩)) (hh : a.eval y = vI h) (h1 : h ≤ n) : Gv P o a w (.slice (some ⟨b, off, none⟩) h n) := by
  unfold Gv execOp; rw [ho]
  have g1 : (0 : Int) ≤ (h : Int) ∧ (h : Int) ≤ (n : Int) := ⟨by omega, by omega⟩
  by_cases hn : n = 0
  · have : h = 0 := by omega
    subst this; subst hn
    simp [hx, hh, vI, Instr.sliceAt, run_und ht, Instr.sureAddr, Instr.sliceBounds, Instr.sliceBound, asIntOf, Fw.run_sizeOf hz]
  · simp [hx, hh, vI, Instr.sliceAt, run_und ht, Instr.sureAddr, Instr.sliceBounds, Instr.sliceBound, asIntOf, g1, h1, Fw.run_sizeOf hz, hn, Addr.add]
theorem Rd.cut3 {xs : List Value} (hr : Rd w (.slice A n c) xs) (h1 : l ≤ h) (h2 : h ≤ n) (h3 : h ≤ mx) (h4 : mx ≤ c) : Rd w (cut3V A l h mx) ((xs.take h).drop l) := by
  obtain ⟨A', c', hv, g1, g2, g3⟩ := hr.is
  injection hv with hA hn hc
  subst hA; subst hc; subst hn
  have hlen : ((xs.take h).drop l).length = h - l := by simp; omega
  refine ⟨_, mx - l, by rw [hlen]; rfl, by omega, by omega, fun hp => ?_⟩
  obtain ⟨b, o, hA, hcell⟩ := g3 (by omega)
  subst hA
  refine ⟨b, o + l, by rw [if_neg (by omega)]; simp [add_lit], fun i u hu => ?_⟩
  rw [Nat.add_assoc]
  refine hcell (l + i) u ?_
  rw [List.getElem?_drop, List.getElem?_take] at hu
  split at hu
  · exact hu
  · cases hu
/-- The same, from its head on. -/
theorem Rd.cutHM {xs : List Value} (hr : Rd w (.slice A n c) xs) (h2 : h ≤ n) (h3 : h ≤ mx) (h4 : mx ≤ c) : Rd w (.slice A h mx) (xs.take h) := by
  obtain ⟨A', c', hv, g1, g2, g3⟩ := hr.is
  injection hv with hA hn hc
  subst hA; subst hc; subst hn
  have hlen : (xs.take h).length = h := by simp; omega
  refine ⟨A, mx, by rw [hlen], by omega, by omega, fun hp => ?_⟩
  obtain ⟨b, o, hA, hcell⟩ := g3 (by omega)
  refine ⟨b, o, hA, fun i u hu => hcell i u ?_⟩
  rw [List.getElem?_take] at hu
  split at hu
  · exact hu
  · cases hu
theorem SRd.cut3 {T : List Ent} {xs : List Value} (hr : SRd w0 T (.slice A n c) xs) (h1 : l ≤ h) (h2 : h ≤ n) (h3 : h ≤ mx) (h4 : mx ≤ c) : SRd w0 T (cut3V A l h mx) ((xs.take h).drop l) := fun w H hS hn hs => (hr w H hS hn hs).cut3 h1 h2 h3 h4
theorem SRd.cutHM {T : List Ent} {xs : List Value} (hr : SRd w0 T (.slice A n c) xs) (h2 : h ≤ n) (h3 : h ≤ mx) (h4 : mx ≤ c) : SRd w0 T (.slice A h mx) (xs.take h) := fun w H hS hn hs => (hr w H hS hn hs).cutHM h2 h3 h4
theorem eqGuard_slice (op : BinOp) (t : TypeId) (x y : Operand) (A B : Option Addr) (n c n' c' : Nat) (w : World) : (eqGuard op t x y (.slice A n c) (.slice B n' c')).run P w = .ok () w := by
  unfold eqGuard; split <;> rfl
theorem gv_eqlNilS (ho : o.op = .binOp .eql t x y t') (ht : P.underlying t = some (.slice e)) (hx : a.eval x = .slice A n c) (hy : a.eval y = .slice none 0 0) : Gv P o a w (.bool A.isNone) := by
  have he : (Op.equal t (.slice A n c) (.slice none 0 0)).run P w = .ok A.isNone w := by
    show (Op.equalIn (9999 + 1) t (.slice A n c) (.slice none 0 0)).run P w = _
    unfold Op.equalIn
    cases A <;> simp [run_und ht]
  unfold Gv execOp; rw [ho]
  simp only [hx, hy, binOp, Sem.run_bind, eqGuard_slice, Result.andThen_ok, he, Sem.run_pure]
theorem gv_neqNilS (ho : o.op = .binOp .neq t x y t') (ht : P.underlying t = some (.slice e)) (hx : a.eval x = .slice A n c) (hy : a.eval y = .slice none 0 0) : Gv P o a w (.bool A.isSome) := by
  have he : (Op.equal t (.slice A n c) (.slice none 0 0)).run P w = .ok A.isNone w := by
    show (Op.equalIn (9999 + 1) t (.slice A n c) (.slice none 0 0)).run P w = _
    unfold Op.equalIn
    cases A <;> simp [run_und ht]
  unfold Gv execOp; rw [ho]
  simp only [hx, hy, binOp, Sem.run_bind, eqGuard_slice, Result.andThen_ok, he, Sem.run_pure]
  cases A <;> rfl
theorem stp_build4 {v0 v1 v2 v3 : UInt8} {q0 q1 q2 q3 : Operand} {k : Nat} (hF : Fr N a m) (hw : Region.wanted o (yielded ops a.tmps) = true) (hd : o.dst = some k) (hN : Nat.blt k N = true) (ho : o.op = .buildSlice t 4 #[(0, q0), (1, q1), (2, q2), (3, q3)]) (ht : P.underlying t = some (.slice e)) {by_ : Nat} (hty : Ty P e (.int .u8 0) 1 by_)
    (h0 : a.eval q0 = vB v0) (h1 : a.eval q1 = vB v1) (h2 : a.eval q2 = vB v2) (h3 : a.eval q3 = vB v3) (hS : St w0 w H)
    (h : ∀ b a' w', Fr N a' ((k, .slice (some ⟨b, 0, none⟩) 4 4) :: m) → St w0 w' (⟨true, some b, blkB e [v0, v1, v2, v3]⟩ :: H) → K a' w') : Stp P ops Q o a w K := by
  obtain ⟨i, g1, g2, g3, g4⟩ := hty.get
  refine stp_val hF hw hd hN (w' := w.alloc (.cells [vB v0, vB v1, vB v2, vB v3].toArray e)) ?_ fun a' hF' => h _ a' _ hF' (hS.alloc _)
  have := run_buildSlice (P := P) w t e 4 #[(0, vB v0), (1, vB v1), (2, vB v2), (3, vB v3)] [vB v0, vB v1, vB v2, vB v3].toArray i (.int .u8 0) ht g1 g2 (by rw [g3]; decide) (by rw [g3]; decide) (by
    rw [g3, show (Array.range (4 * 1)).map (fun j => (Value.int .u8 0).cells[j % (Value.int .u8 0).cells.size]!) = #[.int .u8 0, .int .u8 0, .int .u8 0, .int .u8 0] from by rw [show Array.range (4 * 1) = #[0, 1, 2, 3] from by decide]; simp [Value.cells]]
    refine (fill_cons (place := fun i => some (i * 1, 1)) (v := vB v0) (i := 0) (rest := [(1, vB v1), (2, vB v2), (3, vB v3)]) (zs := [.int .u8 0, .int .u8 0, .int .u8 0, .int .u8 0]) (vs := [vB v0]) (off := 0) rfl rfl (by simp)).trans ?_
    refine (fill_cons (place := fun i => some (i * 1, 1)) (v := vB v1) (i := 1) (rest := [(2, vB v2), (3, vB v3)]) (vs := [vB v1]) (off := 1) rfl rfl (by simp [splice])).trans ?_
    refine (fill_cons (place := fun i => some (i * 1, 1)) (v := vB v2) (i := 2) (rest := [(3, vB v3)]) (vs := [vB v2]) (off := 2) rfl rfl (by simp [splice])).trans ?_
    refine (fill_cons (place := fun i => some (i * 1, 1)) (v := vB v3) (i := 3) (rest := []) (vs := [vB v3]) (off := 3) rfl rfl (by simp [splice])).trans ?_
    rw [fill_nil]; rfl)
  simp [execOp, ho, h0, h1, h2, h3]
  show ((Instr.buildSlice t 4 #[(0, vB v0), (1, vB v1), (2, vB v2), (3, vB v3)]).run P w).andThen _ = _
  rw [this]; rfl
end
end Go.Fw
namespace Go.Fw
open Go Go.RowKit
section
variable {P : Program} {N : Nat} {a : Act} {w w0 : World} {m : List (Nat × Value)} {H : List Ent} {o : Oper} {ops : Array Oper} {K : Act → World → Prop} {Q : Exit → Act → World → Prop} {x y : Operand} {t e : TypeId} {z : Value}
/-- append to a slice that is full: a new row. -/
theorem stp_appFull {A : Option Addr} {l ml : List UInt8} {v : Value} {d : Nat} (hF : Fr N a m) (hw : Region.wanted o (yielded ops a.tmps) = true) (hd : o.dst = some d) (hN : Nat.blt d N = true)
    (ho : o.op = .call { callee := .builtin .append, args := #[x, y], argTypes := #[t, t] }) (ht : P.underlying t = some (.slice e)) (hty : Ty P e z 1 1) (hzc : z.cells.size = 1)
    (hx : a.eval x = .slice A l.length l.length) (hy : a.eval y = v) (hS : St w0 w H) (hl : Rd w (.slice A l.length l.length) (l.map vB)) (hlp : 0 < l.length) (hr : Rd w v (ml.map vB)) (hp : 0 < ml.length) (hn : l.length + ml.length ≤ 140737488355328)
    (h : ∀ b pad a' w', Fr N a' ((d, .slice (some ⟨b, 0, none⟩) (l ++ ml).length ((l ++ ml).length + pad.length)) :: m) → (l ++ ml).length + pad.length ≤ 9223372036854775807 →
      St w0 w' (⟨true, some b, blk e ((l ++ ml).map vB ++ pad)⟩ :: H) → K a' w') : Stp P ops Q o a w K := by
  obtain ⟨i, hi, h2, h3, h4⟩ := hty.get
  obtain ⟨A1, c1, hv1, _, _, hc1⟩ := hl.isB
  injection hv1 with hA1 _ _
  subst hA1
  obtain ⟨b1, o1, rfl, hd1⟩ := hc1 hlp
  obtain ⟨A2, c2, rfl, _, _, hc2⟩ := hr.isB
  obtain ⟨b2, o2, rfl, hd2⟩ := hc2 hp
  have hget : ∀ (l : List UInt8) (j : Nat) (u : Value), (l.map vB)[j]? = some u → j < l.length ∧ u = vB (l.getD j 0) := fun l j u hu => by
    rw [List.getElem?_map] at hu
    obtain ⟨q, hq, rfl⟩ := Option.map_eq_some_iff.1 hu
    exact ⟨(List.getElem?_eq_some_iff.1 hq).1, by rw [List.getD_eq_getElem?_getD, hq]; rfl⟩
  have hr := run_append_grow (P := P) w t o.type e i z ht hi h2 ⟨b1, o1, none⟩ l.length l.length (l.map vB) (by simp [h3]) (fun j u hu => by
      obtain ⟨g1, rfl⟩ := hget l j u hu
      rw [add_lit]; exact hd1 j g1) ⟨b2, o2, none⟩ ml.length c2 (ml.map vB) (by simp [h3]) (fun j u hu => by
      obtain ⟨g1, rfl⟩ := hget ml j u hu
      rw [add_lit]; exact hd2 j g1) (by omega) (by omega) (growslice_fits (by omega) (by rw [h4]; omega))
  have hge := grownCap_ge w (l.length + ml.length) l.length e
  have hle := grownCap_le_maxLen w (l.length + ml.length) l.length e (by simp only [maxLen]; omega)
  obtain ⟨Z, hZ⟩ : ∃ Z : Array Value, Builtin.zeroCells z.cells (grownCap w (l.length + ml.length) l.length e - (l.length + ml.length)) = Z := ⟨_, rfl⟩
  have hZl : Z.toList.length = grownCap w (l.length + ml.length) l.length e - (l.length + ml.length) := by rw [← hZ, Array.length_toList, size_zeroCells, hzc]; omega
  rw [hZ] at hr
  have hlen : (l ++ ml).length = l.length + ml.length := List.length_append
  have hcap : (l ++ ml).length + Z.toList.length = grownCap w (l.length + ml.length) l.length e := by rw [hlen, hZl]; omega
  refine stp_val hF hw hd hN (run_appendOp ho hx hy hr) fun a' hF' => h w.heap.size Z.toList a' _ (by rw [hcap, hlen]; exact hF') (by rw [hcap]; simpa [maxLen] using hle) ?_
  refine hS.float (w' := w.drew.alloc _) ⟨rfl, rfl, rfl, by simp, fun j hj => heap_alloc_old w.drew _ hj⟩ (Nat.le_refl _) ((heap_alloc_new w.drew _).trans ?_)
  simp [blk]
theorem own_one (o : Option Nat) (n c : Nat) : (ownV o n c).oneCell' = true := by cases o <;> rfl
/-- What is under a guard that has not come up is passed by. -/
theorem unwanted_undef (hF : Fr N a m) {j t : Nat} {b : Bool} (hg : o.guard = some (j, b)) (hj : (ops[j]?).bind (·.dst) = some t) (hl : look t m = some undef) : Region.wanted o (yielded ops a.tmps) = false := by
  have h := hF.get t _ hl
  have hn : yielded ops a.tmps j = none := by
    unfold yielded
    rw [hj]
    simp only [slot, Array.getD_eq_getD_getElem?] at h
    cases ht : a.tmps[t]? with
    | none => simp [ht]
    | some v => rw [ht] at h; simp only [Option.getD_some] at h; subst h; simp [ht, undef]
  simp only [Region.wanted, hg, hn]
  rfl
/-- A row of the call's own among others, as a value. -/
def ownP (w00 : World) (e : TypeId) (TT : List Ent) (l : List UInt8) (v : Value) (w : World) : Prop := ∃ (o : Option Nat) (op : List Value), v = ownV o l.length (l.length + op.length) ∧ (o = none → l = [] ∧ op = []) ∧ l.length + op.length ≤ 9223372036854775807 ∧ St w00 w (⟨true, o, blk e (l.map vB ++ op)⟩ :: TT)
theorem ownP.ext {w00 w w' : World} {TT : List Ent} {l : List UInt8} {v : Value} (h : ownP w00 e TT l v w) (hx : Ext w w') : ownP w00 e TT l v w' := by
  obtain ⟨o, op, h1, h2, h3, h4⟩ := h
  exact ⟨o, op, h1, h2, h3, h4.ext hx⟩
theorem own_open {nw : Bool} {T : List Ent} {ob : Option Nat} {l : List UInt8} {pad : List Value} {n : Nat} (he : ⟨nw, ob, blk t (l.map vB ++ pad)⟩ ∈ T) (hob : ob = none → l = [] ∧ pad = []) (hl : l.length = n) (hc : n + pad.length ≤ 9223372036854775807) :
    ∃ A, ownV ob n (n + pad.length) = .slice A n (n + pad.length) ∧ SRd w0 T (.slice A n (n + pad.length)) (l.map vB) := by
  subst hl
  obtain ⟨A, h1, h2⟩ := ownV_pos (ob := ob) (n := l.length) (c := l.length + pad.length) (hi := l.length) (fun h => by rw [(hob h).1, (hob h).2]; exact ⟨rfl, rfl⟩) (by omega)
  exact ⟨A, h1, by rw [← h1]; exact own_rd he hob rfl hc⟩
end
end Go.Fw

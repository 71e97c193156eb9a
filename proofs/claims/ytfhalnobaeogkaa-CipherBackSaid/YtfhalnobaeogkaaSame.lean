/- What is proved: the program's keys and rounds are those of the document. -/
import Derived.Test.YtfhalnobaeogkaaFit
import Derived.KernelRfl
set_option linter.unusedVariables false
namespace Go.Proofs.Ytfhalnobaeogkaa
open Go Go.RowKit Go.Fw
theorem getD_set_ne {l : List UInt8} {i j : Nat} (h : i ≠ j) (x : UInt8) : (l.set i x).getD j 0 = l.getD j 0 := by
  rw [List.getD_eq_getElem?_getD, List.getElem?_set_ne h, ← List.getD_eq_getElem?_getD]
theorem cut4 {K : List UInt8} {o : Nat} (h : o + 4 ≤ K.length) : ∃ A B x y z u, A.length = o ∧ K = A ++ x :: y :: z :: u :: B := by
  refine ⟨K.take o, K.drop (o + 4), K[o], K[o + 1], K[o + 2], K[o + 3], by simp; omega, ?_⟩
  rw [← List.drop_eq_getElem_cons (i := o + 3) (by omega), ← List.drop_eq_getElem_cons (i := o + 2) (by omega), ← List.drop_eq_getElem_cons (i := o + 1) (by omega), ← List.drop_eq_getElem_cons (i := o) (by omega), List.take_append_drop]
theorem splice4 {K : List UInt8} {o : Nat} {a b c d : UInt8} (h : o + 4 ≤ K.length) : splice K o [a, b, c, d] = (((K.set o a).set (o + 1) b).set (o + 2) c).set (o + 3) d := by
  obtain ⟨A, B, x, y, z, u, hA, rfl⟩ := cut4 h
  subst hA
  unfold splice
  rw [List.take_left, show A.length + [a, b, c, d].length = A.length + 4 from rfl, List.drop_append, List.drop_eq_nil_of_le (by omega)]
  simp
theorem wst_key (kl : List UInt8) : ∀ i, i ≤ 4 → wst kl i = (K1 kl (4 * i), 1)
  | 0, _ => rfl
  | i + 1, h => by
    rw [wst_succ, wst_key kl i (by omega), wrow, if_neg (by omega)]
    simp only [win, wnew, if_pos (show i < 4 by omega)]
    rw [show 4 * (i + 1) = 4 * i + 3 + 1 by omega]
    simp only [K1, Nat.mul_comm i 4, Nat.add_zero]
theorem win_old {kl W : List UInt8} {i : Nat} (h : 4 ≤ i) (j : Nat) (hj : j < i * 4) : ∀ k, (win kl W i k).getD j 0 = W.getD j 0
  | 0 => rfl
  | k + 1 => by rw [win, getD_set_ne (by omega), win_old h j hj k]
theorem wnew_old {kl W : List UInt8} {i : Nat} (h : 4 ≤ i) (k : Nat) (q : Nat) (hq : q < 4) : wnew kl (win kl W i k) i q = wnew kl W i q := by
  unfold wnew
  rw [win_old h ((i - 4) * 4 + q) (by omega) k, win_old h ((i - 1) * 4 + q) (by omega) k, win_old h ((i - 1) * 4 + (q + 1) % 4) (by omega) k]
theorem win4 {kl W : List UInt8} {i : Nat} (h : 4 ≤ i) (hW : i * 4 + 4 ≤ W.length) : win kl W i 4 = splice W (i * 4) [wnew kl W i 0, wnew kl W i 1, wnew kl W i 2, wnew kl W i 3] := by
  rw [splice4 hW]
  simp only [win]
  have e : ∀ k q, q < 4 → wnew kl (win kl W i k) i q = wnew kl W i q := fun k q hq => wnew_old h k q hq
  have e0 := e 0 0 (by omega)
  have e1 := e 1 1 (by omega)
  have e2 := e 2 2 (by omega)
  have e3 := e 3 3 (by omega)
  simp only [win] at e0 e1 e2 e3
  rw [e1] at e2 e3
  rw [e2] at e3
  rw [e1, e2, e3]
  rfl
theorem getD_part {K : List UInt8} {o j : Nat} (hj : j < 4) : ((K.drop o).take 4).getD j 0 = K.getD (o + j) 0 := by
  simp [List.getD_eq_getElem?_getD, hj]
theorem splice_at {K : List UInt8} {o j : Nat} {a b c d : UInt8} (h : o + 4 ≤ K.length) (hj : j < 4) : (splice K o [a, b, c, d]).getD (o + j) 0 = [a, b, c, d].getD j 0 := by
  obtain ⟨A, B, x, y, z, u, hA, rfl⟩ := cut4 h
  subst hA
  unfold splice
  rw [List.take_left, List.append_assoc, List.getD_eq_getElem?_getD, List.getElem?_append_right (by omega), Nat.add_sub_cancel_left, List.getElem?_append_left (by simpa using hj), ← List.getD_eq_getElem?_getD]
theorem splice_at0 {K : List UInt8} {o : Nat} {a b c d : UInt8} (h : o + 4 ≤ K.length) : (splice K o [a, b, c, d]).getD o 0 = a := splice_at (j := 0) h (by omega)
theorem xw4 (K : List UInt8) (a b c d : UInt8) (o : Nat) : xw K [a, b, c, d] o 4 = [a ^^^ K.getD o 0, b ^^^ K.getD (o + 1) 0, c ^^^ K.getD (o + 2) 0, d ^^^ K.getD (o + 3) 0] := rfl
theorem four {t : List UInt8} (h : t.length = 4) : t = [t.getD 0 0, t.getD 1 0, t.getD 2 0, t.getD 3 0] := by
  match t, h with
  | [a, b, c, d], _ => rfl
theorem cols_step {K t : List UInt8} {r c : Nat} (ht : (cols K t r c).2.length = 4) (hK : (r + 1) * 16 + c * 4 + 4 ≤ (cols K t r c).1.length) :
    (cols K t r (c + 1)).1 = splice (cols K t r c).1 ((r + 1) * 16 + c * 4) [(cols K t r c).2.getD 0 0 ^^^ (cols K t r c).1.getD (r * 16 + c * 4) 0, (cols K t r c).2.getD 1 0 ^^^ (cols K t r c).1.getD (r * 16 + c * 4 + 1) 0, (cols K t r c).2.getD 2 0 ^^^ (cols K t r c).1.getD (r * 16 + c * 4 + 2) 0, (cols K t r c).2.getD 3 0 ^^^ (cols K t r c).1.getD (r * 16 + c * 4 + 3) 0] ∧
    ∀ j, j < 4 → (cols K t r (c + 1)).2.getD j 0 = (cols K t r (c + 1)).1.getD ((r + 1) * 16 + c * 4 + j) 0 := by
  have e := four ht
  have h1 : (cols K t r (c + 1)).2 = [(cols K t r c).2.getD 0 0 ^^^ (cols K t r c).1.getD (r * 16 + c * 4) 0, (cols K t r c).2.getD 1 0 ^^^ (cols K t r c).1.getD (r * 16 + c * 4 + 1) 0, (cols K t r c).2.getD 2 0 ^^^ (cols K t r c).1.getD (r * 16 + c * 4 + 2) 0, (cols K t r c).2.getD 3 0 ^^^ (cols K t r c).1.getD (r * 16 + c * 4 + 3) 0] := by
    show xw (cols K t r c).1 (cols K t r c).2 (r * 16 + c * 4) 4 = _
    rw [← xw4, ← e]
  have h2 : (cols K t r (c + 1)).1 = splice (cols K t r c).1 ((r + 1) * 16 + c * 4) (cols K t r (c + 1)).2 := rfl
  refine ⟨by rw [h2, h1], fun j hj => ?_⟩
  rw [h2, h1, splice_at hK hj]
theorem wst_cols (kl : List UInt8) {r : Nat} (hr : r < 10) (h0 : wst kl (4 + 4 * r) = (keysR kl r, rcon r)) : ∀ c, c < 4 →
    wst kl (4 + 4 * r + (c + 1)) = ((cols (keysR kl r) (t0 (keysR kl r) r (rcon r)) r (c + 1)).1, rcon (r + 1)) := by
  intro c hc
  have hl := fun c => cols_len (t := t0 (keysR kl r) r (rcon r)) (r := r) (keysR_len kl r (by omega)) rfl hr c
  induction c with
  | zero =>
    have hK := keysR_len kl r (by omega)
    obtain ⟨h1, h2⟩ := cols_step (K := keysR kl r) (t := t0 (keysR kl r) r (rcon r)) (r := r) (c := 0) rfl (by show _ ≤ (keysR kl r).length; rw [hK]; omega)
    rw [h1, wst_succ, Nat.add_zero, h0, wrow, if_pos (by omega)]
    show (_, dbl (rcon r)) = (_, rcon (r + 1))
    congr 1
    simp only
    rw [win4 (by omega) (by rw [hK]; omega), splice_at0 (by rw [hK]; omega)]
    rw [splice4 (by rw [hK]; omega)]
    show _ = splice (keysR kl r) _ _
    rw [splice4 (by rw [hK]; omega), show (4 + 4 * r) * 4 = (r + 1) * 16 + 0 * 4 by omega]
    have hs : ∀ (l : List UInt8) (o : Nat) (a b c d x : UInt8), ((((l.set o a).set (o + 1) b).set (o + 2) c).set (o + 3) d).set o x = (((l.set o x).set (o + 1) b).set (o + 2) c).set (o + 3) d := fun l o a b c d x => by
      rw [List.set_comm _ _ (by omega : o + 3 ≠ o), List.set_comm _ _ (by omega : o + 2 ≠ o), List.set_comm _ _ (by omega : o + 1 ≠ o), List.set_set]
    rw [hs]
    simp only [wnew, if_neg (show ¬ 4 + 4 * r < 4 by omega), if_neg (show ¬ 0 < (4 + 4 * r) % 4 by omega), t0, cols, List.getD_cons_zero, List.getD_cons_succ, getD_part (show 0 < 4 by omega), getD_part (show 1 < 4 by omega), getD_part (show 2 < 4 by omega), getD_part (show 3 < 4 by omega)]
    simp only [show (4 + 4 * r - 4) * 4 = r * 16 + 0 * 4 by omega, show (4 + 4 * r - 1) * 4 = r * 16 + 12 by omega, Nat.zero_add, Nat.add_zero, Nat.reduceMod, Nat.reduceAdd]
    ac_rfl
  | succ c ih =>
    have ih := ih (by omega)
    obtain ⟨hK, ht⟩ := hl (c + 1) (by omega)
    have hK0 := (hl c (by omega)).1
    obtain ⟨h1, -⟩ := cols_step (K := keysR kl r) (t := t0 (keysR kl r) r (rcon r)) (r := r) (c := c + 1) ht (by rw [hK]; omega)
    obtain ⟨-, h2⟩ := cols_step (K := keysR kl r) (t := t0 (keysR kl r) r (rcon r)) (r := r) (c := c) (hl c (by omega)).2 (by rw [hK0]; omega)
    rw [h1, show 4 + 4 * r + (c + 1 + 1) = (4 + 4 * r + (c + 1)) + 1 by omega, wst_succ, ih, wrow, if_neg (by omega)]
    congr 1
    simp only
    generalize hKK : (cols (keysR kl r) (t0 (keysR kl r) r (rcon r)) r (c + 1)).1 = KK at *
    rw [win4 (by omega) (by rw [hK]; omega), show (4 + 4 * r + (c + 1)) * 4 = (r + 1) * 16 + (c + 1) * 4 by omega]
    simp only [wnew, if_neg (show ¬ 4 + 4 * r + (c + 1) < 4 by omega), if_pos (show 0 < (4 + 4 * r + (c + 1)) % 4 by omega), h2 0 (by omega), h2 1 (by omega), h2 2 (by omega), h2 3 (by omega)]
    simp only [show (4 + 4 * r + (c + 1) - 4) * 4 = r * 16 + (c + 1) * 4 by omega, show (4 + 4 * r + (c + 1) - 1) * 4 = (r + 1) * 16 + c * 4 by omega, Nat.add_zero]
    congr 1
    simp only [UInt8.xor_comm]
theorem wst_keysR (kl : List UInt8) : ∀ r, r ≤ 10 → wst kl (4 + 4 * r) = (keysR kl r, rcon r)
  | 0, _ => wst_key kl 4 (by omega)
  | r + 1, h => by
    have := wst_cols kl (by omega) (wst_keysR kl r (by omega)) 3 (by omega)
    rw [show 4 + 4 * (r + 1) = 4 + 4 * r + (3 + 1) by omega, this]
    rfl
theorem wks_keys (kl : List UInt8) : wks kl = keys kl := by
  have := wst_keysR kl 10 (by omega)
  show (wst kl (4 + 4 * 10)).1 = _
  rw [this]; rfl

def colM (K m : List UInt8) (r : Nat) : Nat → List UInt8
  | 0 => List.replicate 16 0
  | c + 1 => addl K (mixl (colU (subl m (colM K m r c) c 4) c) (allU (colU (subl m (colM K m r c) c 4) c)) (subl m (colM K m r c) c 4) c 4) r c 4
def colP (K m : List UInt8) (r : Nat) : Nat → List UInt8
  | 0 => List.replicate 16 0
  | c + 1 => addl K (subl m (colP K m r c) c 4) r c 4
theorem colT_M {K m : List UInt8} {r : Nat} (h : r < 10) : ∀ c, colT K m r c = colM K m r c
  | 0 => rfl
  | c + 1 => by rw [colT, mixS, if_pos h, colT_M h c]; rfl
theorem colT_P {K m : List UInt8} {r : Nat} (h : ¬ r < 10) : ∀ c, colT K m r c = colP K m r c
  | 0 => rfl
  | c + 1 => by rw [colT, mixS, if_neg h, colT_P h c]; rfl
def mixb (p q s t : UInt8) : UInt8 := dbl p ^^^ (dbl q ^^^ q) ^^^ s ^^^ t
def vvm (K : List UInt8) (r : Nat) (u : List UInt8) : Nat → List UInt8
  | 0 => List.replicate 16 0
  | i + 1 => (vvm K r u i).set i (mixb (u.getD i 0) (u.getD (i - i % 4 + (i + 1) % 4) 0) (u.getD (i - i % 4 + (i + 2) % 4) 0) (u.getD (i - i % 4 + (i + 3) % 4) 0) ^^^ K.getD ((4 * r + i / 4) * 4 + i % 4) 0)
theorem vv_vvm {K u : List UInt8} {r : Nat} (h : r < 10) : ∀ i, vv K r u i = vvm K r u i
  | 0 => rfl
  | i + 1 => by rw [vv, vvm, vv_vvm h i, mxv, if_pos h]; rfl
def vvp (K : List UInt8) (r : Nat) (u : List UInt8) : Nat → List UInt8
  | 0 => List.replicate 16 0
  | i + 1 => (vvp K r u i).set i (u.getD i 0 ^^^ K.getD ((4 * r + i / 4) * 4 + i % 4) 0)
theorem vv_vvp {K u : List UInt8} {r : Nat} (h : ¬ r < 10) : ∀ i, vv K r u i = vvp K r u i
  | 0 => rfl
  | i + 1 => by rw [vv, vvp, vv_vvp h i, mxv, if_neg h]
def mixa (a b c d p q : UInt8) : UInt8 := p ^^^ ((a ^^^ b ^^^ c ^^^ d) ^^^ dbl (p ^^^ q))
theorem dbN_xor : ∀ a, a < 256 → ∀ b, b < 256 → dbN (a ^^^ b) = dbN a ^^^ dbN b := by decide +kernel
theorem dbN_dbl : ∀ n, n < 256 → dbN n = (dbl (UInt8.ofNat n)).toNat := by decide +kernel
theorem dbl_xor (a b : UInt8) : dbl (a ^^^ b) = dbl a ^^^ dbl b := by
  apply UInt8.toNat_inj.1
  have e : ∀ x : UInt8, (dbl x).toNat = dbN x.toNat := fun x => by rw [dbN_dbl _ x.toNat_lt, UInt8.ofNat_toNat]
  rw [UInt8.toNat_xor, e, e, e, UInt8.toNat_xor, dbN_xor _ a.toNat_lt _ b.toNat_lt]
theorem mix_core (p q s t : UInt8) : mixa p q s t p q = mixb p q s t := by
  unfold mixa mixb
  rw [dbl_xor, show p ^^^ (p ^^^ q ^^^ s ^^^ t ^^^ (dbl p ^^^ dbl q)) = (p ^^^ p) ^^^ (dbl p ^^^ (dbl q ^^^ q) ^^^ s ^^^ t) by ac_rfl, UInt8.xor_self, UInt8.zero_xor]
theorem mix2 (a b c d : UInt8) : mixa a b c d b c = mixb b c d a := by
  rw [← mix_core]; unfold mixa; rw [show a ^^^ b ^^^ c ^^^ d = b ^^^ c ^^^ d ^^^ a by ac_rfl]
theorem mix3 (a b c d : UInt8) : mixa a b c d c d = mixb c d a b := by
  rw [← mix_core]; unfold mixa; rw [show a ^^^ b ^^^ c ^^^ d = c ^^^ d ^^^ a ^^^ b by ac_rfl]
theorem mix4 (a b c d : UInt8) : mixa a b c d d a = mixb d a b c := by
  rw [← mix_core]; unfold mixa; rw [show a ^^^ b ^^^ c ^^^ d = d ^^^ a ^^^ b ^^^ c by ac_rfl]
theorem colM_list (K : List UInt8) (r : Nat) (x0 x1 x2 x3 x4 x5 x6 x7 x8 x9 x10 x11 x12 x13 x14 x15 : UInt8) : colM K [x0, x1, x2, x3, x4, x5, x6, x7, x8, x9, x10, x11, x12, x13, x14, x15] r 4 = [mixa (sb x0) (sb x5) (sb x10) (sb x15) (sb x0) (sb x5) ^^^ K.getD (r * 16 + 0 * 4 + 0) 0, mixa (sb x0) (sb x5) (sb x10) (sb x15) (sb x5) (sb x10) ^^^ K.getD (r * 16 + 0 * 4 + 1) 0, mixa (sb x0) (sb x5) (sb x10) (sb x15) (sb x10) (sb x15) ^^^ K.getD (r * 16 + 0 * 4 + 2) 0, mixa (sb x0) (sb x5) (sb x10) (sb x15) (sb x15) (sb x0) ^^^ K.getD (r * 16 + 0 * 4 + 3) 0, mixa (sb x4) (sb x9) (sb x14) (sb x3) (sb x4) (sb x9) ^^^ K.getD (r * 16 + 1 * 4 + 0) 0, mixa (sb x4) (sb x9) (sb x14) (sb x3) (sb x9) (sb x14) ^^^ K.getD (r * 16 + 1 * 4 + 1) 0, mixa (sb x4) (sb x9) (sb x14) (sb x3) (sb x14) (sb x3) ^^^ K.getD (r * 16 + 1 * 4 + 2) 0, mixa (sb x4) (sb x9) (sb x14) (sb x3) (sb x3) (sb x4) ^^^ K.getD (r * 16 + 1 * 4 + 3) 0, mixa (sb x8) (sb x13) (sb x2) (sb x7) (sb x8) (sb x13) ^^^ K.getD (r * 16 + 2 * 4 + 0) 0, mixa (sb x8) (sb x13) (sb x2) (sb x7) (sb x13) (sb x2) ^^^ K.getD (r * 16 + 2 * 4 + 1) 0, mixa (sb x8) (sb x13) (sb x2) (sb x7) (sb x2) (sb x7) ^^^ K.getD (r * 16 + 2 * 4 + 2) 0, mixa (sb x8) (sb x13) (sb x2) (sb x7) (sb x7) (sb x8) ^^^ K.getD (r * 16 + 2 * 4 + 3) 0, mixa (sb x12) (sb x1) (sb x6) (sb x11) (sb x12) (sb x1) ^^^ K.getD (r * 16 + 3 * 4 + 0) 0, mixa (sb x12) (sb x1) (sb x6) (sb x11) (sb x1) (sb x6) ^^^ K.getD (r * 16 + 3 * 4 + 1) 0, mixa (sb x12) (sb x1) (sb x6) (sb x11) (sb x6) (sb x11) ^^^ K.getD (r * 16 + 3 * 4 + 2) 0, mixa (sb x12) (sb x1) (sb x6) (sb x11) (sb x11) (sb x12) ^^^ K.getD (r * 16 + 3 * 4 + 3) 0] := by kernel_rfl
theorem vvM_list (K : List UInt8) (r : Nat) (x0 x1 x2 x3 x4 x5 x6 x7 x8 x9 x10 x11 x12 x13 x14 x15 : UInt8) : vvm K r (uu [x0, x1, x2, x3, x4, x5, x6, x7, x8, x9, x10, x11, x12, x13, x14, x15] 16) 16 = [mixb (sb x0) (sb x5) (sb x10) (sb x15) ^^^ K.getD ((4 * r + 0) * 4 + 0) 0, mixb (sb x5) (sb x10) (sb x15) (sb x0) ^^^ K.getD ((4 * r + 0) * 4 + 1) 0, mixb (sb x10) (sb x15) (sb x0) (sb x5) ^^^ K.getD ((4 * r + 0) * 4 + 2) 0, mixb (sb x15) (sb x0) (sb x5) (sb x10) ^^^ K.getD ((4 * r + 0) * 4 + 3) 0, mixb (sb x4) (sb x9) (sb x14) (sb x3) ^^^ K.getD ((4 * r + 1) * 4 + 0) 0, mixb (sb x9) (sb x14) (sb x3) (sb x4) ^^^ K.getD ((4 * r + 1) * 4 + 1) 0, mixb (sb x14) (sb x3) (sb x4) (sb x9) ^^^ K.getD ((4 * r + 1) * 4 + 2) 0, mixb (sb x3) (sb x4) (sb x9) (sb x14) ^^^ K.getD ((4 * r + 1) * 4 + 3) 0, mixb (sb x8) (sb x13) (sb x2) (sb x7) ^^^ K.getD ((4 * r + 2) * 4 + 0) 0, mixb (sb x13) (sb x2) (sb x7) (sb x8) ^^^ K.getD ((4 * r + 2) * 4 + 1) 0, mixb (sb x2) (sb x7) (sb x8) (sb x13) ^^^ K.getD ((4 * r + 2) * 4 + 2) 0, mixb (sb x7) (sb x8) (sb x13) (sb x2) ^^^ K.getD ((4 * r + 2) * 4 + 3) 0, mixb (sb x12) (sb x1) (sb x6) (sb x11) ^^^ K.getD ((4 * r + 3) * 4 + 0) 0, mixb (sb x1) (sb x6) (sb x11) (sb x12) ^^^ K.getD ((4 * r + 3) * 4 + 1) 0, mixb (sb x6) (sb x11) (sb x12) (sb x1) ^^^ K.getD ((4 * r + 3) * 4 + 2) 0, mixb (sb x11) (sb x12) (sb x1) (sb x6) ^^^ K.getD ((4 * r + 3) * 4 + 3) 0] := by kernel_rfl
theorem colP_list (K : List UInt8) (r : Nat) (x0 x1 x2 x3 x4 x5 x6 x7 x8 x9 x10 x11 x12 x13 x14 x15 : UInt8) : colP K [x0, x1, x2, x3, x4, x5, x6, x7, x8, x9, x10, x11, x12, x13, x14, x15] r 4 = [sb x0 ^^^ K.getD (r * 16 + 0 * 4 + 0) 0, sb x5 ^^^ K.getD (r * 16 + 0 * 4 + 1) 0, sb x10 ^^^ K.getD (r * 16 + 0 * 4 + 2) 0, sb x15 ^^^ K.getD (r * 16 + 0 * 4 + 3) 0, sb x4 ^^^ K.getD (r * 16 + 1 * 4 + 0) 0, sb x9 ^^^ K.getD (r * 16 + 1 * 4 + 1) 0, sb x14 ^^^ K.getD (r * 16 + 1 * 4 + 2) 0, sb x3 ^^^ K.getD (r * 16 + 1 * 4 + 3) 0, sb x8 ^^^ K.getD (r * 16 + 2 * 4 + 0) 0, sb x13 ^^^ K.getD (r * 16 + 2 * 4 + 1) 0, sb x2 ^^^ K.getD (r * 16 + 2 * 4 + 2) 0, sb x7 ^^^ K.getD (r * 16 + 2 * 4 + 3) 0, sb x12 ^^^ K.getD (r * 16 + 3 * 4 + 0) 0, sb x1 ^^^ K.getD (r * 16 + 3 * 4 + 1) 0, sb x6 ^^^ K.getD (r * 16 + 3 * 4 + 2) 0, sb x11 ^^^ K.getD (r * 16 + 3 * 4 + 3) 0] := by kernel_rfl
theorem vvP_list (K : List UInt8) (r : Nat) (x0 x1 x2 x3 x4 x5 x6 x7 x8 x9 x10 x11 x12 x13 x14 x15 : UInt8) : vvp K r (uu [x0, x1, x2, x3, x4, x5, x6, x7, x8, x9, x10, x11, x12, x13, x14, x15] 16) 16 = [sb x0 ^^^ K.getD ((4 * r + 0) * 4 + 0) 0, sb x5 ^^^ K.getD ((4 * r + 0) * 4 + 1) 0, sb x10 ^^^ K.getD ((4 * r + 0) * 4 + 2) 0, sb x15 ^^^ K.getD ((4 * r + 0) * 4 + 3) 0, sb x4 ^^^ K.getD ((4 * r + 1) * 4 + 0) 0, sb x9 ^^^ K.getD ((4 * r + 1) * 4 + 1) 0, sb x14 ^^^ K.getD ((4 * r + 1) * 4 + 2) 0, sb x3 ^^^ K.getD ((4 * r + 1) * 4 + 3) 0, sb x8 ^^^ K.getD ((4 * r + 2) * 4 + 0) 0, sb x13 ^^^ K.getD ((4 * r + 2) * 4 + 1) 0, sb x2 ^^^ K.getD ((4 * r + 2) * 4 + 2) 0, sb x7 ^^^ K.getD ((4 * r + 2) * 4 + 3) 0, sb x12 ^^^ K.getD ((4 * r + 3) * 4 + 0) 0, sb x1 ^^^ K.getD ((4 * r + 3) * 4 + 1) 0, sb x6 ^^^ K.getD ((4 * r + 3) * 4 + 2) 0, sb x11 ^^^ K.getD ((4 * r + 3) * 4 + 3) 0] := by kernel_rfl
theorem round_same (K m : List UInt8) (r : Nat) (hm : m.length = 16) : colT K m r 4 = vv K r (uu m 16) 16 := by
  match m, hm with
  | [x0, x1, x2, x3, x4, x5, x6, x7, x8, x9, x10, x11, x12, x13, x14, x15], _ =>
    by_cases h : r < 10
    · rw [colT_M h, colM_list, vv_vvm h, vvM_list]
      have i4 : ∀ c i, (4 * r + c) * 4 + i = r * 16 + c * 4 + i := fun c i => by omega
      simp only [i4, mix_core, mix2, mix3, mix4]
    · rw [colT_P h, colP_list, vv_vvp h, vvP_list]
      have i4 : ∀ c i, (4 * r + c) * 4 + i = r * 16 + c * 4 + i := fun c i => by omega
      simp only [i4]
end Go.Proofs.Ytfhalnobaeogkaa

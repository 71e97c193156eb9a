/- What is proved: the plain law of records that are saved by turns. -/
import Derived.Test.YtfhalnobaeogkaaDoorProg
import Derived.Test.YtfhalnobaeogkaaDoorFwSep
import Derived.KernelRfl
import Derived.Test.YtfhalnobaeogkaaDoorFwSto
import Derived.Test.YtfhalnobaeogkaaDoorFwVlt
import Derived.Test.YtfhalnobaeogkaaDoorFwApp
import Derived.Test.YtfhalnobaeogkaaDoorFwWord
import Derived.Test.YtfhalnobaeogkaaDoorFwPkt
import Derived.Test.YtfhalnobaeogkaaDoorFwTok
import Derived.Test.YtfhalnobaeogkaaDoorDig
import Derived.Test.YtfhalnobaeogkaaDoorSum
import Derived.Test.YtfhalnobaeogkaaDoorWire
import Derived.Test.YtfhalnobaeogkaaDoorPktW
import Derived.Test.YtfhalnobaeogkaaDoorPktR
import Derived.Test.YtfhalnobaeogkaaDoorWireA
import Derived.Test.YtfhalnobaeogkaaDoorDisk
import Derived.Test.YtfhalnobaeogkaaDoorFwZer
import Derived.Test.YtfhalnobaeogkaaDoorFwSeq
import Derived.Test.YtfhalnobaeogkaaDoorWireA
import Derived.Test.YtfhalnobaeogkaaDoorHead
import Derived.Test.YtfhalnobaeogkaaDoorHalf
import Derived.Test.YtfhalnobaeogkaaDoorOpen
import Derived.Test.YtfhalnobaeogkaaDoorSave
import Derived.Test.YtfhalnobaeogkaaDoorVPure
import Derived.Test.YtfhalnobaeogkaaDoorRefH
import Derived.Test.YtfhalnobaeogkaaDoorRefSum
import Derived.Test.YtfhalnobaeogkaaDoorRefCur
import Derived.Test.YtfhalnobaeogkaaDoorRefBy
import Derived.Test.YtfhalnobaeogkaaDoorRefIm
import Derived.Test.YtfhalnobaeogkaaDoorRefHf
import Derived.Test.YtfhalnobaeogkaaDoorRefNw
import Derived.Test.YtfhalnobaeogkaaDoorRefLaw
import Derived.Test.YtfhalnobaeogkaaDoorLawVN
import Derived.Test.YtfhalnobaeogkaaDoorLawVF
import Derived.Test.YtfhalnobaeogkaaDoorVCrash
set_option linter.unusedVariables false
set_option linter.unusedSimpArgs false
namespace Go.Proofs.YtfhalnobaeogkaaDoor
open Go Go.RowKit Go.Fw




/-! ### A row of records -/
def rowR (rs : List Rc) : List Value := rs.flatMap fun r => [sV r.a, sV r.c, .bool r.p]
theorem rowR_snoc (rs : List Rc) (r : Rc) : rowR rs ++ [sV r.a, sV r.c, .bool r.p] = rowR (rs ++ [r]) := by simp [rowR]
theorem rowR_len : ∀ rs : List Rc, (rowR rs).length = rs.length * 3
  | [] => rfl
  | r :: rs => by
    have := rowR_len rs
    show (([sV r.a, sV r.c, .bool r.p] : List Value) ++ rowR rs).length = _
    rw [List.length_append, this]
    show 3 + rs.length * 3 = (rs.length + 1) * 3
    omega
theorem rowR_at {pad : List Value} : ∀ {rs : List Rc} {i : Nat} {r : Rc}, rs[i]? = some r → ∀ {j : Nat} {u : Value}, ([sV r.a, sV r.c, .bool r.p] : List Value)[j]? = some u → (rowR rs ++ pad)[i * 3 + j]? = some u
  | [], i, r, h, _, _, _ => by simp at h
  | r0 :: rs, 0, r, h, j, u, hu => by
    simp only [List.getElem?_cons_zero, Option.some.injEq] at h
    subst h
    show ((([sV r0.a, sV r0.c, .bool r0.p] : List Value) ++ rowR rs) ++ pad)[0 * 3 + j]? = _
    have hj := (List.getElem?_eq_some_iff.1 hu).1
    rw [List.append_assoc, List.getElem?_append_left (by simpa using hj), Nat.zero_mul, Nat.zero_add]
    exact hu
  | r0 :: rs, i + 1, r, h, j, u, hu => by
    have := rowR_at (pad := pad) (rs := rs) (i := i) (r := r) (by simpa using h) hu
    show ((([sV r0.a, sV r0.c, .bool r0.p] : List Value) ++ rowR rs) ++ pad)[(i + 1) * 3 + j]? = _
    rw [List.append_assoc, List.getElem?_append_right (by show 3 ≤ _; omega)]
    rw [show (i + 1) * 3 + j - ([sV r0.a, sV r0.c, .bool r0.p] : List Value).length = i * 3 + j by show (i + 1) * 3 + j - 3 = _; omega]
    exact this
structure RowK (ob : Option Nat) (n cap sz : Nat) (xs pad : List Value) : Prop where
  ob : ob = none → n = 0 ∧ xs = [] ∧ pad = []
  x : xs.length = n * sz
  p : pad.length = (cap - n) * sz
  nc : n ≤ cap
  cap : cap ≤ 9223372036854775807
theorem Tryd.ty63 : Ty Tryd.prog 63 (.agg #[.string .empty, .string .empty, .bool false]) 3 40 := ⟨by kernel_rfl⟩
/-! ### Turn by turn -/
structure TInv (V : Vt) (D : Dk) (rs : List Rc) : Prop where
  inv : VInv V D 200 rs.getLast?
  k : V.k = (rs.length + 1) % 2
  dead : D.dead = false
  fuel : D.fuel = -1
  prev : ∀ i r, i + 2 = rs.length → rs[i]? = some r → ∃ g, halfF D.l 200 (1 - V.k) = (r, g, true)
theorem tinv_new : TInv ⟨0, 1⟩ (newF 200) [] := ⟨vinv_new (by decide) (by decide), rfl, rfl, rfl, fun i r h => by simp at h⟩
theorem tinv_save {V V' : Vt} {D D' : Dk} {rs : List Rc} {r : Rc} (h : TInv V D rs) (hg : V.g.toNat < 4294967294) (hs : saveF V D 200 r = (0, V', D')) : TInv V' D' (rs ++ [r]) ∧ V'.g.toNat = V.g.toNat + 1 := by
  obtain ⟨h1, h2, h3⟩ := vinv_save h.inv hg hs
  obtain ⟨q1, q2, q3, q4, q5, q6, q7⟩ := saveF_good h.inv.ok h.inv.k hs
  subst q1
  have hk := h.k
  refine ⟨⟨by rw [List.getLast?_concat]; exact h1, ?_, h2.trans h.dead, q6 h.fuel, fun i r' hi hr => ?_⟩, h3⟩
  · show 1 - V.k = _
    rw [List.length_append, List.length_singleton]
    omega
  · show ∃ g, halfF D'.l 200 (1 - (1 - V.k)) = _
    rw [one_sub h.inv.k]
    rw [List.length_append, List.length_singleton] at hi
    rw [List.getElem?_append_left (by omega)] at hr
    have hl : rs.getLast? = some r' := by rw [List.getLast?_eq_getElem?, show rs.length - 1 = i by omega]; exact hr
    exact ⟨V.g, by rw [half_congr (by decide) q4]; exact (h.inv.some r' hl).1⟩
theorem tinv_step {V : Vt} {D : Dk} {rs : List Rc} {r : Rc} (h : TInv V D rs) : (∃ V' D', saveF V D 200 r = (0, V', D')) ∨ saveF V D 200 r = (22, V, D) := by
  by_cases hc : ((200 / 2 - 1) * 64 < (recB r.a r.c r.p).length ∨ 16384 < r.a.length) ∨ 16384 < r.c.length
  · exact .inr (if_pos hc)
  · exact .inl (saveF_free h.inv.ok h.inv.k (by omega) (by omega) (by omega) h.dead h.fuel)
/-- A half that is wiped, block by block. -/
def zapT (D : Dk) (b : Nat) : Nat → Dk
  | 0 => D
  | q + 1 => (wrF (zapT D b q) 200 ((b + q : Nat) : Int) zero64).2
theorem zapT_ok {D : Dk} {b : Nat} (hK : DkOk 200 D) (hd : D.dead = false) (hf : D.fuel = -1) (hb : b ≤ 100) : ∀ q, q ≤ 100 → DkOk 200 (zapT D b q) ∧ (zapT D b q).dead = false ∧ (zapT D b q).fuel = -1 ∧ (∀ i, 64 * b ≤ i → i < 64 * (b + q) → (zapT D b q).l[i]? = some 0) ∧ ∀ i, i < 64 * b ∨ 64 * (b + 100) ≤ i → (zapT D b q).l[i]? = D.l[i]?
  | 0, _ => ⟨hK, hd, hf, fun i h1 h2 => by omega, fun i _ => rfl⟩
  | q + 1, h => by
    obtain ⟨h1, h2, h3, h4, h5⟩ := zapT_ok hK hd hf hb q (by omega)
    have he := wrF_free (n := 200) (x := zero64) (show b + q < 200 by omega) h2 h3
    have hk := wrF_ok (n := 200) (i := ((b + q : Nat) : Int)) (x := zero64) h1 rfl
    rw [zapT]
    rw [he] at hk ⊢
    have hl := h1.len
    have hget := fun i => putL_get (l := (zapT D b q).l) (o := 64 * (b + q)) (x := zero64) (by rw [hl]; show 64 * (b + q) + 64 ≤ _; omega) i
    rw [show zero64.length = 64 from rfl] at hget
    refine ⟨hk, h2, h3, fun i hi1 hi2 => ?_, fun i hi => ?_⟩
    · show (putL (zapT D b q).l (64 * (b + q)) zero64)[i]? = some 0
      rw [hget]
      by_cases hc : 64 * (b + q) ≤ i ∧ i < 64 * (b + q) + 64
      · rw [if_pos hc, zero64, List.getElem?_replicate, if_pos (by omega)]
      · rw [if_neg hc]
        exact h4 i hi1 (by omega)
    · show (putL (zapT D b q).l (64 * (b + q)) zero64)[i]? = _
      rw [hget, if_neg (by omega)]
      exact h5 i hi
theorem turns_open {V : Vt} {D : Dk} {rs : List Rc} {r : Rc} (h : TInv V D rs) (h2 : 2 ≤ rs.length) (hr : rs[rs.length - 2]? = some r) : ∃ g, openF (zapT D (100 * V.k) 100).l 200 = ⟨g, 1 - V.k, r, true⟩ := by
  obtain ⟨g, hg⟩ := h.prev _ r (by omega) hr
  have hk := h.inv.k
  obtain ⟨_, _, _, z4, z5⟩ := zapT_ok h.inv.ok h.dead h.fuel (show 100 * V.k ≤ 100 by omega) 100 (Nat.le_refl _)
  refine ⟨g, open_one (by omega) ?_ (.inl ?_)⟩
  · rw [half_congr (l' := D.l) (by decide) fun i h1 h2 => z5 i (by simp only [Nat.reduceDiv] at h1 h2; rcases (show V.k = 0 ∨ V.k = 1 by omega) with h | h <;> rw [h] at h1 h2 ⊢ <;> omega)]
    exact hg
  · rw [one_sub hk]
    exact half_zero (zero_blk fun i h1 h2 => z4 i (by simp only [Nat.reduceDiv] at h1 h2; omega) (by simp only [Nat.reduceDiv] at h1 h2; omega))
theorem turns_at {V : Vt} {D : Dk} {rs : List Rc} (h : TInv V D rs) (h2 : 2 ≤ rs.length) : ∃ x y, newR D.l = (((V.k : Nat) : Int), x, y) := by
  obtain ⟨r, hr⟩ : ∃ r, rs.getLast? = some r := by
    cases hl : rs.getLast? with
    | none => rw [List.getLast?_eq_none_iff] at hl; rw [hl] at h2; exact absurd h2 (by simp)
    | some r => exact ⟨r, rfl⟩
  have hI := h.inv
  rw [hr] at hI
  rw [new_same hI.ok.len (by decide), vinv_open hI]
  exact ⟨_, _, rfl⟩



end Go.Proofs.YtfhalnobaeogkaaDoor

/- What is proved: the table of the reference is the table of the program; mirrors of the reference. -/
import Derived.Test.YtfhalnobaeogkaaProg
import Derived.Test.YtfhalnobaeogkaaFwSep
import Derived.KernelRfl
import Derived.Test.YtfhalnobaeogkaaFwRef
import Derived.Test.YtfhalnobaeogkaaLeaf
import Derived.Test.YtfhalnobaeogkaaRef
set_option linter.unusedVariables false
set_option linter.unusedSimpArgs false
namespace Go.Proofs.Ytfhalnobaeogkaa
open Go Go.RowKit Go.Fw




theorem tm2 : ∀ n, n < 256 → tms 2 n = (dbl (UInt8.ofNat n)).toNat := by decide +kernel
theorem tm3 : ∀ n, n < 256 → tms 3 n = (dbl (UInt8.ofNat n) ^^^ UInt8.ofNat n).toNat := by decide +kernel
theorem tmr2 : ∀ n, n < 256 → tms n 2 = (dbl (UInt8.ofNat n)).toNat := by decide +kernel
theorem times2 {x : UInt8} {w0 : World} : Calls Try.prog 18 #[vI 2, vN x] w0 fun e w' => e = .returned (vN (dbl x)) ∧ Ext w0 w' := by
  have := times_ok (w0 := w0) (a0 := 2) (b0 := x.toNat) (by decide) x.toNat_lt
  rwa [tm2 _ x.toNat_lt, UInt8.ofNat_toNat] at this
theorem times3 {x : UInt8} {w0 : World} : Calls Try.prog 18 #[vI 3, vN x] w0 fun e w' => e = .returned (vN (dbl x ^^^ x)) ∧ Ext w0 w' := by
  have := times_ok (w0 := w0) (a0 := 3) (b0 := x.toNat) (by decide) x.toNat_lt
  rwa [tm3 _ x.toNat_lt, UInt8.ofNat_toNat] at this
theorem timesr2 {x : UInt8} {w0 : World} : Calls Try.prog 18 #[vN x, vI 2] w0 fun e w' => e = .returned (vN (dbl x)) ∧ Ext w0 w' := by
  have := times_ok (w0 := w0) (a0 := x.toNat) (b0 := 2) x.toNat_lt (by decide)
  rwa [tmr2 _ x.toNat_lt, UInt8.ofNat_toNat] at this
def invA : Nat → Nat → Nat → List Nat → List Nat
  | 0, _, _, t => t
  | n + 1, p, q, t => invA n (tms p 3) (tms q 246) (t.set p q)
theorem invA_eq : ∀ n i, invA n (invS i).1.1 (invS i).1.2 (invS i).2 = (invS (i + n)).2
  | 0, i => rfl
  | n + 1, i => by rw [invA, show i + (n + 1) = (i + 1) + n by omega, ← invA_eq n (i + 1)]; rfl
def othA : Nat → Nat → List Nat → List Nat
  | 0, _, _ => []
  | n + 1, i, l => (yk (l.getD i 0) 4 ^^^ 99) :: othA n (i + 1) l
set_option maxRecDepth 100000 in
theorem othA_swap : othA 256 0 (invA 255 1 1 (List.replicate 256 0)) = swapL.map UInt8.toNat := by decide +kernel
theorem othA_eq (l : List Nat) : ∀ n i, othA n i l = (List.range' i n).map fun i => yk (l.getD i 0) 4 ^^^ 99
  | 0, i => rfl
  | n + 1, i => by rw [othA, othA_eq l n (i + 1), List.range'_succ]; rfl
/-- A loop that sets cell after cell. -/
theorem setTo {α : Type} {g : Nat → List α} {f : Nat → α} (hs : ∀ i, g (i + 1) = (g i).set i (f i)) : ∀ i, i ≤ (g 0).length → g i = (List.range i).map f ++ (g 0).drop i
  | 0, _ => by simp
  | i + 1, h => by
    rw [hs, setTo hs i (by omega), List.set_append, if_neg (by simp), List.range_succ, List.map_append, List.length_map, List.length_range, Nat.sub_self, List.append_assoc]
    congr 1
    rw [List.drop_eq_getElem_cons (by omega), List.set_cons_zero]; rfl
theorem setAll {α : Type} {g : Nat → List α} {f : Nat → α} (hs : ∀ i, g (i + 1) = (g i).set i (f i)) {n : Nat} (h : (g 0).length = n) : g n = (List.range n).map f := by
  rw [setTo hs n (by omega), List.drop_eq_nil_of_le (by omega), List.append_nil]
theorem oth_swap : othT 256 = swapL.map UInt8.toNat := by
  rw [setAll (f := fun i => yk (invL.getD i 0) 4 ^^^ 99) othT_succ (by rw [othT_len]), List.range_eq_range', ← othA_eq, ← othA_swap]
  have : invL = invA 255 1 1 (List.replicate 256 0) := by
    have h := invA_eq 255 0
    rw [Nat.zero_add] at h
    exact h.symm
  rw [this]
theorem others_any (w0 : World) : Calls Try.prog 17 #[] w0 fun e w' => e = .returned (.agg (swapL.map vN).toArray) ∧ Ext w0 w' := by
  have := others_ok (w0 := w0)
  rwa [oth_swap, List.map_map] at this
def wnew (kl W : List UInt8) (i k : Nat) : UInt8 := if i < 4 then kl.getD (4 * i + k) 0 else if 0 < i % 4 then W.getD ((i - 4) * 4 + k) 0 ^^^ W.getD ((i - 1) * 4 + k) 0 else W.getD ((i - 4) * 4 + k) 0 ^^^ sb (W.getD ((i - 1) * 4 + (k + 1) % 4) 0)
def win (kl W : List UInt8) (i : Nat) : Nat → List UInt8
  | 0 => W
  | k + 1 => (win kl W i k).set (i * 4 + k) (wnew kl (win kl W i k) i k)
theorem win_len (kl W : List UInt8) (i k : Nat) : (win kl W i k).length = W.length := by induction k with
  | zero => rfl
  | succ k ih => rw [win, List.length_set, ih]
def wrow (kl : List UInt8) (i : Nat) (s : List UInt8 × UInt8) : List UInt8 × UInt8 :=
  if 4 ≤ i ∧ i % 4 = 0 then ((win kl s.1 i 4).set (i * 4) ((win kl s.1 i 4).getD (i * 4) 0 ^^^ s.2), dbl s.2) else (win kl s.1 i 4, s.2)
theorem wrow_len (kl : List UInt8) (i : Nat) (s : List UInt8 × UInt8) : (wrow kl i s).1.length = s.1.length := by unfold wrow; split <;> simp [win_len]
def wst (kl : List UInt8) : Nat → List UInt8 × UInt8
  | 0 => (List.replicate 176 0, 1)
  | i + 1 => wrow kl i (wst kl i)
theorem wst_zero (kl : List UInt8) : wst kl 0 = (List.replicate 176 0, 1) := rfl
theorem wst_succ (kl : List UInt8) (i : Nat) : wst kl (i + 1) = wrow kl i (wst kl i) := rfl
theorem wst_len (kl : List UInt8) (i : Nat) : (wst kl i).1.length = 176 := by induction i with
  | zero => exact List.length_replicate
  | succ i ih => rw [wst_succ, wrow_len, ih]
def wks (kl : List UInt8) : List UInt8 := (wst kl 44).1
theorem wks_def (kl : List UInt8) : (wst kl 44).1 = wks kl := rfl
theorem wks_len (kl : List UInt8) : (wks kl).length = 176 := wst_len kl 44
def s0 (W bl : List UInt8) : Nat → List UInt8
  | 0 => List.replicate 16 0
  | i + 1 => (s0 W bl i).set i (bl.getD i 0 ^^^ W.getD (i / 4 * 4 + i % 4) 0)
theorem s0_len (W bl : List UInt8) (i : Nat) : (s0 W bl i).length = 16 := by induction i with
  | zero => exact List.length_replicate
  | succ i ih => rw [s0, List.length_set, ih]
def uu (s : List UInt8) : Nat → List UInt8
  | 0 => List.replicate 16 0
  | i + 1 => (uu s i).set i (sb (s.getD ((i + 4 * (i % 4)) % 16) 0))
theorem uu_len (s : List UInt8) (i : Nat) : (uu s i).length = 16 := by induction i with
  | zero => exact List.length_replicate
  | succ i ih => rw [uu, List.length_set, ih]
def mxv (r : Nat) (u : List UInt8) (i : Nat) : UInt8 := if r < 10 then dbl (u.getD i 0) ^^^ (dbl (u.getD (i - i % 4 + (i + 1) % 4) 0) ^^^ u.getD (i - i % 4 + (i + 1) % 4) 0) ^^^ u.getD (i - i % 4 + (i + 2) % 4) 0 ^^^ u.getD (i - i % 4 + (i + 3) % 4) 0 else u.getD i 0
def vv (W : List UInt8) (r : Nat) (u : List UInt8) : Nat → List UInt8
  | 0 => List.replicate 16 0
  | i + 1 => (vv W r u i).set i (mxv r u i ^^^ W.getD ((4 * r + i / 4) * 4 + i % 4) 0)
theorem vv_len (W : List UInt8) (r : Nat) (u : List UInt8) (i : Nat) : (vv W r u i).length = 16 := by induction i with
  | zero => exact List.length_replicate
  | succ i ih => rw [vv, List.length_set, ih]
theorem vv_succ (W : List UInt8) (r : Nat) (u : List UInt8) (i : Nat) : vv W r u (i + 1) = (vv W r u i).set i (mxv r u i ^^^ W.getD ((4 * r + i / 4) * 4 + i % 4) 0) := rfl
def rS (W bl : List UInt8) : Nat → List UInt8
  | 0 => s0 W bl 16
  | r + 1 => vv W (r + 1) (uu (rS W bl r) 16) 16
theorem rS_zero (W bl : List UInt8) : rS W bl 0 = s0 W bl 16 := rfl
theorem rS_succ (W bl : List UInt8) (r : Nat) : rS W bl (r + 1) = vv W (r + 1) (uu (rS W bl r) 16) 16 := rfl
theorem rS_len (W bl : List UInt8) (r : Nat) : (rS W bl r).length = 16 := by cases r with
  | zero => exact s0_len W bl 16
  | succ r => exact vv_len _ _ _ _
def o16 (s : List UInt8) : Nat → List UInt8
  | 0 => List.replicate 16 0
  | i + 1 => (o16 s i).set i (s.getD i 0)
theorem o16_len (s : List UInt8) (i : Nat) : (o16 s i).length = 16 := by induction i with
  | zero => exact List.length_replicate
  | succ i ih => rw [o16, List.length_set, ih]
theorem set_get {l : List UInt8} {j : Nat} (h : j < l.length) (x : UInt8) : (l.set j x).getD j 0 = x := by
  rw [List.getD_eq_getElem?_getD, List.getElem?_set_self h]; rfl
theorem swn_at (x : UInt8) : (swapL.map vN)[x.toNat]? = some (vN (sb x)) := by
  have h : x.toNat < swapL.length := by rw [swapL_len]; exact x.toNat_lt
  exact map_at (f := vN) h 0



end Go.Proofs.Ytfhalnobaeogkaa

/- What is proved: the blocks of the program are those of the document, and its streams too, however they are cut. -/
import Derived.Test.YtfhalnobaeogkaaSame
set_option linter.unusedVariables false
namespace Go.Proofs.Ytfhalnobaeogkaa
open Go Go.RowKit Go.Fw
theorem s0_m1 (K bl : List UInt8) : ∀ i, s0 K bl i = m1 K bl i
  | 0 => rfl
  | i + 1 => by rw [s0, m1, s0_m1 K bl i, Nat.div_add_mod' i 4]
theorem rS_blkR (K bl : List UInt8) : ∀ r, rS K bl r = blkR K bl r
  | 0 => s0_m1 K bl 16
  | r + 1 => by rw [rS_succ, blkR_succ, rS_blkR K bl r, round_same K _ (r + 1) (blkR_len K bl r)]
theorem outl_all {b m : List UInt8} (h : b.length = 16) : outl b m 16 = (List.range 16).map fun i => m.getD i 0 := setAll (g := outl b m) (fun i => rfl) h
theorem o16_all (m : List UInt8) : o16 m 16 = (List.range 16).map fun i => m.getD i 0 := setAll (g := o16 m) (fun i => rfl) List.length_replicate
/-- The block of the program is the document's. -/
theorem block_same {kl bl : List UInt8} (h : bl.length = 16) : blockF (keys kl) bl = rblk kl bl := by
  rw [blockF, rblk, outl_all h, o16_all, rS_blkR, wks_keys]
/-- The stream of the document, byte by byte. -/
def ks (kl cl : List UInt8) (n : Nat) : UInt8 := (rblk kl (cI cl (n / 16))).getD (n % 16) 0
theorem kstep_at {kl cl : List UInt8} (hc : cl.length = 16) : ∀ n, kstep (keys kl) (kst (keys kl) (cl, []) n) = (cI cl (n / 16 + 1), (rblk kl (cI cl (n / 16))).drop (n % 16))
  | 0 => by
    show (if ([] : List UInt8).length = 0 then _ else _) = _
    rw [if_pos (show ([] : List UInt8).length = 0 from rfl)]
    show (incC cl, blockF (keys kl) cl) = (incC cl, rblk kl cl)
    rw [block_same hc]
  | n + 1 => by
    rw [kst_succ, kstep_at hc n]
    simp only [List.drop_drop]
    have hl := rblk_len kl (cI cl (n / 16))
    by_cases h : n % 16 + 1 < 16
    · rw [kstep, if_neg (by simp only [List.length_drop]; omega), show (n + 1) / 16 = n / 16 by omega, show (n + 1) % 16 = n % 16 + 1 by omega]
    · rw [kstep, if_pos (by simp only [List.length_drop]; omega), show (n + 1) / 16 = n / 16 + 1 by omega, show (n + 1) % 16 = 0 by omega, List.drop_zero]
      simp only
      rw [block_same (cI_len hc _), ← cI_succ]
theorem kby_at {kl cl : List UInt8} (hc : cl.length = 16) (n : Nat) : kby (keys kl) (cl, []) n = ks kl cl n := by
  rw [kby, kstep_at hc, ks]
  simp [List.getD_eq_getElem?_getD]
theorem kst_add (K : List UInt8) (s : List UInt8 × List UInt8) (n : Nat) : ∀ m, kst K (kst K s n) m = kst K s (n + m)
  | 0 => rfl
  | m + 1 => by rw [kst_succ, kst_add K s n m]; rfl
theorem kby_add (K : List UInt8) (s : List UInt8 × List UInt8) (n m : Nat) : kby K (kst K s n) m = kby K s (n + m) := by rw [kby, kst_add]; rfl
theorem outT_old (K : List UInt8) (s : List UInt8 × List UInt8) (bl : List UInt8) : ∀ k j, k ≤ j → (outT K s bl k).getD j 0 = bl.getD j 0
  | 0, _, _ => rfl
  | k + 1, j, h => by rw [outT_succ, getD_set_ne (by omega), outT_old K s bl k j (by omega)]
theorem outT_all (K : List UInt8) (s : List UInt8 × List UInt8) (bl : List UInt8) : outT K s bl bl.length = (List.range bl.length).map fun i => bl.getD i 0 ^^^ kby K s i :=
  by
  refine setAll (g := outT K s bl) (f := fun i => bl.getD i 0 ^^^ kby K s i) (n := bl.length) (fun i => ?_) (outT_len K s bl 0)
  rw [outT_succ, outT_old K s bl i i (Nat.le_refl i)]
  simp only [kby]
/-- What a stream that has turned n bytes makes of the next ones. -/
def turned (kl cl : List UInt8) (n : Nat) (bl : List UInt8) : List UInt8 := (List.range bl.length).map fun i => bl.getD i 0 ^^^ ks kl cl (n + i)
theorem turned_len (kl cl : List UInt8) (n : Nat) (bl : List UInt8) : (turned kl cl n bl).length = bl.length := by simp [turned]
theorem outT_turned {kl cl : List UInt8} (hc : cl.length = 16) (n : Nat) (bl : List UInt8) : outT (keys kl) (kst (keys kl) (cl, []) n) bl bl.length = turned kl cl n bl := by
  rw [outT_all]
  unfold turned
  apply List.map_congr_left
  intro i _
  rw [kby_add, kby_at hc]
theorem turned_at {kl cl : List UInt8} {n : Nat} {bl : List UInt8} {i : Nat} (h : i < bl.length) : (turned kl cl n bl).getD i 0 = bl.getD i 0 ^^^ ks kl cl (n + i) := by
  simp [turned, List.getD_eq_getElem?_getD, h]
theorem ext_getD {l l' : List UInt8} (h : l.length = l'.length) (hh : ∀ i, i < l.length → l.getD i 0 = l'.getD i 0) : l = l' := by
  apply List.ext_getElem h
  intro i h1 h2
  have := hh i h1
  simpa [List.getD_eq_getElem?_getD, h1, h2] using this
theorem getD_app {a b : List UInt8} {i : Nat} : (a ++ b).getD i 0 = if i < a.length then a.getD i 0 else b.getD (i - a.length) 0 := by
  simp only [List.getD_eq_getElem?_getD, List.getElem?_append]
  split <;> rfl
theorem turned_app (kl cl : List UInt8) (n : Nat) (a b : List UInt8) : turned kl cl n (a ++ b) = turned kl cl n a ++ turned kl cl (n + a.length) b := by
  apply ext_getD (by simp [turned_len])
  intro i hi
  rw [turned_len, List.length_append] at hi
  rw [turned_at (by simpa using hi), getD_app, getD_app, turned_len]
  split
  · rename_i h; rw [turned_at h]
  · rename_i h
    rw [turned_at (by omega), show n + a.length + (i - a.length) = n + i by omega]
theorem turned_back (kl cl : List UInt8) (n : Nat) (bl : List UInt8) : turned kl cl n (turned kl cl n bl) = bl := by
  apply ext_getD (by simp [turned_len])
  intro i hi
  rw [turned_len, turned_len] at hi
  rw [turned_at (by rw [turned_len]; exact hi), turned_at hi, UInt8.xor_assoc, UInt8.xor_self, UInt8.xor_zero]
theorem bB_at {kl cl : List UInt8} : ∀ m n, n < 16 * m → (bB kl cl m).getD n 0 = ks kl cl n
  | 0, _, h => absurd h (by omega)
  | m + 1, n, h => by
    rw [bB, getD_app, bB_len]
    split
    · rename_i h'; exact bB_at m n h'
    · rename_i h'
      rw [ks, show n / 16 = m by omega, show n - 16 * m = n % 16 by omega]
theorem byts_at {kl cl : List UInt8} {n i : Nat} (h : i < n) : (byts kl cl n).getD i 0 = ks kl cl i := by
  rw [byts, List.getD_eq_getElem?_getD, List.getElem?_take, if_pos h, ← List.getD_eq_getElem?_getD, bB_at _ _ (by omega)]
theorem xr_byts {kl cl al : List UInt8} {n : Nat} (h : al.length ≤ n) : xr al (byts kl cl n) al.length = turned kl cl 0 al := by
  unfold xr turned
  apply List.map_congr_left
  intro i hi
  rw [byts_at (by have := List.mem_range.1 hi; omega), Nat.zero_add]
end Go.Proofs.Ytfhalnobaeogkaa

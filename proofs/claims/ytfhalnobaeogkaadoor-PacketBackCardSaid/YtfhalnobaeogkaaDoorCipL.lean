/- What is proved: what a stream turned is turned back, in parts too; the contract of digest.Same. -/
import Derived.Test.YtfhalnobaeogkaaDoorProg
import Derived.Test.YtfhalnobaeogkaaDoorFwSep
import Derived.KernelRfl
import Derived.Test.YtfhalnobaeogkaaDoorFwFour
import Derived.Test.YtfhalnobaeogkaaDoorLeaf
import Derived.Test.YtfhalnobaeogkaaDoorCip
import Derived.Test.YtfhalnobaeogkaaDoorPktR
set_option linter.unusedVariables false
set_option linter.unusedSimpArgs false
namespace Go.Proofs.YtfhalnobaeogkaaDoor
open Go Go.RowKit Go.Fw




theorem getD_ne {l : List UInt8} {i j : Nat} {x : UInt8} (h : i ≠ j) : (l.set i x).getD j 0 = l.getD j 0 := by
  simp [List.getD_eq_getElem?_getD, List.getElem?_set, h]
theorem ext_getD {l l' : List UInt8} (h : l.length = l'.length) (hh : ∀ i, i < l.length → l.getD i 0 = l'.getD i 0) : l = l' := by
  apply List.ext_getElem h
  intro i h1 h2
  have := hh i h1
  simpa [List.getD_eq_getElem?_getD, h1, h2] using this
theorem getD_drp {l : List UInt8} {o i : Nat} : (l.drop o).getD i 0 = l.getD (o + i) 0 := by simp [List.getD_eq_getElem?_getD]
theorem kst_add (K : List UInt8) (s : List UInt8 × List UInt8) (n : Nat) : ∀ m, kst K (kst K s n) m = kst K s (n + m)
  | 0 => rfl
  | m + 1 => by rw [kst_succ, kst_add K s n m]; rfl
theorem kby_add (K : List UInt8) (s : List UInt8 × List UInt8) (n m : Nat) : kby K (kst K s n) m = kby K s (n + m) := by rw [kby, kst_add]; rfl
theorem outT_old (K : List UInt8) (s : List UInt8 × List UInt8) (bl : List UInt8) : ∀ k j, k ≤ j → (outT K s bl k).getD j 0 = bl.getD j 0
  | 0, _, _ => rfl
  | k + 1, j, h => by rw [outT_succ, getD_ne (by omega), outT_old K s bl k j (by omega)]
theorem outT_at (K : List UInt8) (s : List UInt8 × List UInt8) (bl : List UInt8) : ∀ k i, i < k → k ≤ bl.length → (outT K s bl k).getD i 0 = bl.getD i 0 ^^^ kby K s i
  | 0, _, h, _ => absurd h (by omega)
  | k + 1, i, h, hk => by
    by_cases hi : i = k
    · subst hi
      rw [outT_succ, set_getD (by rw [outT_len]; omega), outT_old K s bl i i (Nat.le_refl i)]; rfl
    · rw [outT_succ, getD_ne (fun e => hi e.symm), outT_at K s bl k i (by omega) (by omega)]
theorem turn_back (K : List UInt8) (s : List UInt8 × List UInt8) (P : List UInt8) : outT K s (outT K s P P.length) P.length = P := by
  have hl : (outT K s (outT K s P P.length) P.length).length = P.length := by rw [outT_len, outT_len]
  refine ext_getD hl fun i hi => ?_
  rw [hl] at hi
  rw [outT_at K s _ _ i hi (by rw [outT_len]; exact Nat.le_refl _), outT_at K s P _ i hi (Nat.le_refl _), UInt8.xor_assoc, UInt8.xor_self, UInt8.xor_zero]
theorem turn_take (K : List UInt8) (s : List UInt8 × List UInt8) {bl : List UInt8} {k : Nat} (hk : k ≤ bl.length) : outT K s (bl.take k) k = (outT K s bl bl.length).take k := by
  have h1 : (bl.take k).length = k := by rw [List.length_take]; omega
  refine ext_getD (by rw [outT_len, h1, List.length_take, outT_len]; omega) fun i hi => ?_
  rw [outT_len, h1] at hi
  rw [outT_at K s _ _ i hi (by omega), take_getD hi, take_getD hi, outT_at K s bl _ i (by omega) (Nat.le_refl _)]
theorem turn_drop (K : List UInt8) (s : List UInt8 × List UInt8) {bl : List UInt8} {k : Nat} (hk : k ≤ bl.length) : outT K (kst K s k) (bl.drop k) (bl.length - k) = (outT K s bl bl.length).drop k := by
  have h1 : (bl.drop k).length = bl.length - k := by rw [List.length_drop]
  refine ext_getD (by rw [outT_len, List.length_drop, List.length_drop, outT_len]) fun i hi => ?_
  rw [outT_len, h1] at hi
  rw [outT_at K _ _ _ i hi (by omega), getD_drp, getD_drp, outT_at K s bl _ (k + i) (by omega) (Nat.le_refl _), kby_add]
/-- What digest.Same gathers. -/
def sameN (al bl : List UInt8) : Nat → Nat
  | 0 => al.length ^^^ bl.length
  | i + 1 => sameN al bl i ||| (al.getD i 0 ^^^ bl.getD i 0).toNat
theorem sameN_lt {al bl : List UInt8} (h1 : al.length < 2 ^ 50) (h2 : bl.length < 2 ^ 50) : ∀ i, sameN al bl i < 2 ^ 50
  | 0 => Nat.xor_lt_two_pow h1 h2
  | i + 1 => Nat.or_lt_two_pow (sameN_lt h1 h2 i) (Nat.lt_of_lt_of_le (UInt8.toNat_lt _) (by decide))
theorem nxor_zero {a b : Nat} : a ^^^ b = 0 ↔ a = b := by
  constructor
  · intro h
    have : a ^^^ (a ^^^ b) = b := by rw [← Nat.xor_assoc, Nat.xor_self, Nat.zero_xor]
    rw [h, Nat.xor_zero] at this
    exact this
  · rintro rfl
    exact Nat.xor_self a
theorem sameN_zero {al bl : List UInt8} : ∀ i, sameN al bl i = 0 ↔ al.length = bl.length ∧ ∀ j, j < i → al.getD j 0 = bl.getD j 0
  | 0 => by
    rw [sameN, nxor_zero]
    exact ⟨fun h => ⟨h, fun j hj => absurd hj (by omega)⟩, fun h => h.1⟩
  | i + 1 => by
    rw [sameN, Nat.or_eq_zero_iff, sameN_zero i]
    have hx : (al.getD i 0 ^^^ bl.getD i 0).toNat = 0 ↔ al.getD i 0 = bl.getD i 0 := by
      rw [show (0 : Nat) = (0 : UInt8).toNat from rfl, UInt8.toNat_inj, UInt8.xor_eq_zero_iff]
    rw [hx]
    constructor
    · rintro ⟨⟨h1, h2⟩, h3⟩
      exact ⟨h1, fun j hj => by by_cases hji : j = i; · rw [hji]; exact h3
                                · exact h2 j (by omega)⟩
    · rintro ⟨h1, h2⟩
      exact ⟨⟨h1, fun j hj => h2 j (by omega)⟩, h2 i (by omega)⟩
theorem same_iff {al bl : List UInt8} : (sameN al bl (min al.length bl.length) : Int) = 0 ↔ al = bl := by
  rw [Int.natCast_eq_zero, sameN_zero]
  constructor
  · rintro ⟨h1, h2⟩
    exact ext_getD h1 fun i hi => h2 i (by omega)
  · rintro rfl
    exact ⟨rfl, fun _ _ => rfl⟩


theorem same_ok {av bv : Value} {al bl : List UInt8} {w0 : World} (ha : Rd w0 av (al.map vB)) (hb : Rd w0 bv (bl.map vB)) (h1 : al.length < 2 ^ 50) (h2 : bl.length < 2 ^ 50) :
    Calls Tryd.prog 51 #[av, bv] w0 fun e w' => e = .returned (.bool (decide (al = bl))) ∧ Ext w0 w' := by
  obtain ⟨Aa, ca, rfl, ha1, ha2, ha3⟩ := ha.isB
  obtain ⟨Ab, cb, rfl, hb1, hb2, hb3⟩ := hb.isB
  have hlt := sameN_lt h1 h2
  refine calls_start 35 Tryd.func51 rfl Tryd.ntmps51 rfl fun a hF => ?_
  have hS := St.refl w0
  refine wp_seq_k fun Kq1 hKq1 => ?_
  -- region 0 (digest.go:131)
  refine wp_region_lit ?_
  refine wpList_stp (stp_gv hF (wanted_none rfl) rfl rfl (gv_assign rfl (ev_const _ _)) fun a hF => ?_)
  refine wpList_nil ?_
  refine then_normal (hKq1 _ _ ?_)
  refine wp_seq_k fun Kq2 hKq2 => ?_
  -- region 1 (digest.go:132)
  refine wp_region_lit ?_
  refine wpList_stp (stp_gv hF (wanted_none rfl) rfl rfl (gv_move rfl (hF.t rfl)) fun a hF => ?_)
  refine wpList_stp (stp_gv hF (wanted_none rfl) rfl rfl (gv_len rfl Tryd.underlying22 (hF.t rfl)) fun a hF => ?_)
  refine wpList_stp (stp_gv hF (wanted_none rfl) rfl rfl (gv_move rfl (hF.t rfl)) fun a hF => ?_)
  refine wpList_stp (stp_gv hF (wanted_none rfl) rfl rfl (gv_len rfl Tryd.underlying22 (hF.t rfl)) fun a hF => ?_)
  refine wpList_stp (stp_gv hF (wanted_none rfl) rfl rfl (gv_n_xor rfl (hF.t rfl) (hF.t rfl) (by omega) (by omega)) fun a hF => ?_)
  refine wpList_stp (stp_gv hF (wanted_none rfl) rfl rfl (gv_assign rfl (hF.t rfl)) fun a hF => ?_)
  refine wpList_nil ?_
  refine then_normal (hKq2 _ _ ?_)
  refine wp_seq_k fun Kq3 hKq3 => ?_
  refine wp_seq_k fun Kq4 hKq4 => ?_
  -- region 2 (digest.go:133)
  refine wp_region_lit ?_
  refine wpList_stp (stp_gv hF (wanted_none rfl) rfl rfl (gv_move rfl (hF.t rfl)) fun a hF => ?_)
  refine wpList_stp (stp_gv hF (wanted_none rfl) rfl rfl (gv_len rfl Tryd.underlying22 (hF.t rfl)) fun a hF => ?_)
  refine wpList_stp (stp_gv hF (wanted_none rfl) rfl rfl (gv_move rfl (hF.t rfl)) fun a hF => ?_)
  refine wpList_stp (stp_gv hF (wanted_none rfl) rfl rfl (gv_len rfl Tryd.underlying22 (hF.t rfl)) fun a hF => ?_)
  refine wpList_stp (stp_gv hF (wanted_none rfl) rfl rfl (gv_nmin rfl (hF.t rfl) (hF.t rfl)) fun a hF => ?_)
  refine wpList_stp (stp_gv hF (wanted_none rfl) rfl rfl (gv_move rfl (ev_const _ _)) fun a hF => ?_)
  refine wpList_nil ?_
  refine then_normal (hKq4 _ _ ?_)
  refine wp_block ?_
  refine wp_loop_n (fun n a w => ∃ i, i ≤ min al.length bl.length ∧ n = min al.length bl.length - i ∧ Fr 35 a [(0, .slice Aa al.length ca), (1, .slice Ab bl.length cb), (5, vI (sameN al bl i)), (16, vI (min al.length bl.length)), (17, vI i)] ∧ St w0 w []) (min al.length bl.length) ⟨0, by omega, by omega, hF.sub ⟨rfl, rfl, rfl, rfl, rfl, trivial⟩, hS⟩ ?_
  rintro n a w ⟨i, hi, hn, hF, hS⟩
  refine wp_seq_k fun Kq5 hKq5 => ?_
  -- region 3 (digest.go:133)
  refine wp_region_lit ?_
  refine wpList_stp (stp_gv hF (wanted_none rfl) rfl rfl (gv_lss rfl (hF.t rfl) (hF.t rfl)) fun a hF => ?_)
  refine wpList_nil ?_
  refine then_normal (hKq5 _ _ ?_)
  refine wp_seq_k fun Kq6 hKq6 => ?_
  refine cond_dec (hF.t rfl) (fun h18 => ?_) (fun h18 => ?_)
  ·
    obtain ⟨ba, oa, rfl, _⟩ := ha3 (by omega)
    obtain ⟨bb, ob, rfl, _⟩ := hb3 (by omega)
    refine wp_skip ?_
    refine then_normal (hKq6 _ _ ?_)
    refine wp_seq_k fun Kq7 hKq7 => ?_
    refine wp_block ?_
    refine wp_seq_k fun Kq8 hKq8 => ?_
    -- region 4 (digest.go:133)
    refine wp_region_lit ?_
    refine wpList_stp (stp_gv hF (wanted_none rfl) rfl rfl (gv_move rfl (hF.t rfl)) fun a hF => ?_)
    refine wpList_stp (stp_gv hF (wanted_none rfl) rfl rfl (gv_assign rfl (hF.t rfl)) fun a hF => ?_)
    refine wpList_nil ?_
    refine then_normal (hKq8 _ _ ?_)
    -- region 5 (digest.go:134)
    refine Fw.wp_region_draw (by kernel_rfl) fun w hx => ?_
    replace hS := hS.ext hx
    clear hx
    refine run_head0 (n := 12) _ hF (by kernel_rfl) rfl ?_
    refine dw_gv hF rfl (wanted_none rfl) rfl rfl (fun w hx => gv_move rfl (hF.t rfl)) fun a hF => ?_
    refine dw_gv hF rfl (wanted_none rfl) rfl rfl (fun w hx => gv_move rfl (hF.t rfl)) fun a hF => ?_
    refine dw_gv hF rfl (wanted_none rfl) rfl rfl (fun w hx => gv_move rfl (hF.t rfl)) fun a hF => ?_
    refine dw_gv hF rfl (wanted_none rfl) rfl rfl (fun w hx => gv_indexSl rfl Tryd.underlying22 Tryd.sz5 (hF.t rfl) (hF.t rfl) (by omega)) fun a hF => ?_
    refine dw_gv hF rfl (wanted_none rfl) rfl rfl (fun w hx => gv_load rfl Tryd.underlying5 rfl (hF.t rfl) (cell_ix ((ha.ext ((hS.ext hx).toExt nw_nil)).cellB i (by omega)) (by omega))) fun a hF => ?_
    refine dw_gv hF rfl (wanted_none rfl) rfl rfl (fun w hx => gv_move rfl (hF.t rfl)) fun a hF => ?_
    refine dw_gv hF rfl (wanted_none rfl) rfl rfl (fun w hx => gv_move rfl (hF.t rfl)) fun a hF => ?_
    refine dw_gv hF rfl (wanted_none rfl) rfl rfl (fun w hx => gv_indexSl rfl Tryd.underlying22 Tryd.sz5 (hF.t rfl) (hF.t rfl) (by omega)) fun a hF => ?_
    refine dw_gv hF rfl (wanted_none rfl) rfl rfl (fun w hx => gv_load rfl Tryd.underlying5 rfl (hF.t rfl) (cell_ix ((hb.ext ((hS.ext hx).toExt nw_nil)).cellB i (by omega)) (by omega))) fun a hF => ?_
    refine dw_gv hF rfl (wanted_none rfl) rfl rfl (fun w hx => gv_b_xor rfl (hF.t rfl) (hF.t rfl)) fun a hF => ?_
    refine dw_gv hF rfl (wanted_none rfl) rfl rfl (fun w hx => gv_conv_b_i rfl Tryd.underlying5 Tryd.underlying3 (hF.t rfl)) fun a hF => ?_
    refine dw_gv hF rfl (wanted_none rfl) rfl rfl (fun w hx => gv_n_or rfl (hF.t rfl) (hF.t rfl) (by have := hlt i; omega) (by have := UInt8.toNat_lt (al.getD i 0 ^^^ bl.getD i 0); omega)) fun a hF => ?_
    refine dw_nil fun a w hA hx => ?_
    replace hF := hA _ hF
    replace hS := hS.ext hx
    clear hA hx
    refine run_stp (by kernel_rfl) rfl (stp_gv hF (wanted_none rfl) rfl rfl (gv_assign rfl (hF.t rfl)) fun a hF => ?_)
    refine run_done (by decide) ?_
    refine block_normal ?_
    refine then_normal (hKq7 _ _ ?_)
    -- region 6 (digest.go:133)
    refine wp_region_lit ?_
    refine wpList_stp (stp_gv hF (wanted_none rfl) rfl rfl (gv_nadd (n := 1) rfl (hF.t rfl) rfl (by omega)) fun a hF => ?_)
    refine wpList_stp (stp_gv hF (wanted_none rfl) rfl rfl (gv_move rfl (hF.t rfl)) fun a hF => ?_)
    refine wpList_nil ?_
    refine then_normal ?_
    exact ⟨n - 1, by omega, i + 1, by omega, by omega, hF.sub ⟨rfl, rfl, rfl, rfl, rfl, trivial⟩, hS⟩
  ·
    refine wp_exit ?_
    refine then_exit ?_
    refine then_exit ?_
    refine block_exit ?_
    refine then_normal (hKq3 _ _ ?_)
    refine wp_seq_k fun Kq9 hKq9 => ?_
    obtain rfl : i = min al.length bl.length := by omega
    -- region 7 (digest.go:136)
    refine wp_region_lit ?_
    refine wpList_stp (stp_gv hF (wanted_none rfl) rfl rfl (gv_move rfl (hF.t rfl)) fun a hF => ?_)
    refine wpList_stp (stp_gv hF (wanted_none rfl) rfl rfl (gv_eql rfl (hF.t rfl) (ev_const _ _)) fun a hF => ?_)
    refine wpList_stp (stp_gv hF (wanted_none rfl) rfl rfl (gv_assign rfl (hF.t rfl)) fun a hF => ?_)
    refine wpList_nil ?_
    refine then_normal (hKq9 _ _ ?_)
    refine wp_ret ?_
    refine ret1 (fn := Tryd.f51) (t := 4) hF rfl rfl ?_
    exact ⟨by rw [decide_eq_decide.2 (same_iff (al := al) (bl := bl))], hS.toExt nw_nil⟩


end Go.Proofs.YtfhalnobaeogkaaDoor

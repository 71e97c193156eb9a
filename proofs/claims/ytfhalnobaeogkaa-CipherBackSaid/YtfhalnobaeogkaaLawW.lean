/- What is proved: CipherWraps returns true. -/
import Derived.Test.YtfhalnobaeogkaaProg
import Derived.Test.YtfhalnobaeogkaaFwSep
import Derived.KernelRfl
import Derived.Test.YtfhalnobaeogkaaFwStr
import Derived.Test.YtfhalnobaeogkaaLeaf
import Derived.Test.YtfhalnobaeogkaaCip
import Derived.Test.YtfhalnobaeogkaaCipN
import Derived.Test.YtfhalnobaeogkaaRef
import Derived.Test.YtfhalnobaeogkaaRef2
import Derived.Test.YtfhalnobaeogkaaRefB
import Derived.Test.YtfhalnobaeogkaaRefY
import Derived.Test.YtfhalnobaeogkaaFit
import Derived.Test.YtfhalnobaeogkaaSame
import Derived.Test.YtfhalnobaeogkaaSame2
import Derived.Test.YtfhalnobaeogkaaLawB
set_option linter.unusedVariables false
set_option linter.unusedSimpArgs false
namespace Go.Proofs.Ytfhalnobaeogkaa
open Go Go.RowKit Go.Fw




def ffs : Nat → List UInt8
  | 0 => List.replicate 16 0
  | i + 1 => (ffs i).set i 255
theorem ffs_len (i : Nat) : (ffs i).length = 16 := by induction i with
  | zero => rfl
  | succ i ih => rw [ffs, List.length_set, ih]
def ff16 (B : Nat) : List UInt8 := (ffs 16).set 15 ((ffs 16).getD 15 0 - UInt8.ofNat B)
theorem ff16_len (B : Nat) : (ff16 B).length = 16 := by rw [ff16, List.length_set, ffs_len]
theorem ff16_def (B : Nat) : (ffs 16).set 15 ((ffs 16).getD 15 0 - UInt8.ofNat B) = ff16 B := rfl
def one16 : List UInt8 := (List.replicate 16 0).set 15 1
theorem one16_len : one16.length = 16 := rfl
def ffx (x : UInt8) : List UInt8 := [255, 255, 255, 255, 255, 255, 255, 255, 255, 255, 255, 255, 255, 255, 255, x]
theorem ffx_inc {x : UInt8} (h : x + 1 ≠ 0) : incC (ffx x) = ffx (x + 1) := by
  show incl (ffx x) (15 + 1) = _
  rw [incl, if_pos (show (ffx x).getD 15 0 + 1 ≠ 0 from h)]; rfl
theorem ff16_x (B : Nat) : ff16 B = ffx (255 - UInt8.ofNat B) := by kernel_rfl
theorem ff16_up {B : Nat} (hB : B < 200) : ∀ m, m ≤ B → cI (ff16 B) m = ffx (UInt8.ofNat (255 - B + m))
  | 0, _ => by
    show ff16 B = _
    rw [ff16_x]
    congr 1
    apply UInt8.toNat_inj.1
    rw [UInt8.toNat_sub, UInt8.toNat_ofNat', UInt8.toNat_ofNat', show (255 : UInt8).toNat = 255 from rfl]
    omega
  | m + 1, h => by
    rw [cI_succ, ff16_up hB m (by omega), ffx_inc]
    · congr 1
      apply UInt8.toNat_inj.1
      rw [UInt8.toNat_add, UInt8.toNat_ofNat', UInt8.toNat_ofNat', show (1 : UInt8).toNat = 1 from rfl]
      omega
    · intro e
      have := congrArg UInt8.toNat e
      rw [UInt8.toNat_add, UInt8.toNat_ofNat', show (1 : UInt8).toNat = 1 from rfl, show (0 : UInt8).toNat = 0 from rfl] at this
      omega
theorem ffx_wrap : incC (incC (ffx 255)) = one16 := by decide +kernel
theorem wrap_last (B : Nat) (hB : B < 200) : cI (ff16 B) (B + 2) = one16 := by
  rw [cI_succ, cI_succ, ff16_up hB B (Nat.le_refl B), show 255 - B + B = 255 by omega]
  exact ffx_wrap
theorem cI_inc (cl : List UInt8) : ∀ m, cI (incC cl) m = cI cl (m + 1)
  | 0 => rfl
  | m + 1 => by rw [cI_succ, cI_inc cl m, ← cI_succ]
theorem ks_inc (kl cl : List UInt8) (i : Nat) : ks kl (incC cl) i = ks kl cl (i + 16) := by
  rw [ks, ks, cI_inc, show (i + 16) / 16 = i / 16 + 1 by omega, show (i + 16) % 16 = i % 16 by omega]
def zN (N : Nat) : List UInt8 := List.replicate N 0
theorem zN_len (N : Nat) : (zN N).length = N := List.length_replicate
theorem tz_len (kl cl : List UInt8) (N : Nat) : (turned kl cl 0 (zN N)).length = N := by rw [turned_len, zN_len]
theorem tz_at {kl cl : List UInt8} {N i : Nat} (h : i < N) : (turned kl cl 0 (zN N)).getD i 0 = ks kl cl i := by
  rw [turned_at (by rw [zN_len]; exact h), Nat.zero_add]
  simp [zN, List.getD_eq_getElem?_getD, List.getElem?_replicate, h]
theorem getD_drop {l : List UInt8} {o i : Nat} : (l.drop o).getD i 0 = l.getD (o + i) 0 := by simp [List.getD_eq_getElem?_getD]
theorem getD_take {l : List UInt8} {o i : Nat} (h : i < o) : (l.take o).getD i 0 = l.getD i 0 := by simp [List.getD_eq_getElem?_getD, h]
theorem wraps1 (kl cl : List UInt8) {N : Nat} (hN : 16 ≤ N) : (turned kl cl 0 (zN N)).drop 16 = (turned kl (incC cl) 0 (zN N)).take (N - 16) := by
  apply ext_getD (by simp [tz_len])
  intro i hi
  rw [List.length_drop, tz_len] at hi
  rw [getD_drop, getD_take hi, tz_at (by omega), tz_at (by omega), ks_inc, Nat.add_comm]
theorem wraps2 (kl cl : List UInt8) {N : Nat} (hN : 16 ≤ N) : (turned kl cl 0 (zN N)).take 16 = rblk kl cl := by
  apply ext_getD (by simp [tz_len, rblk_len]; omega)
  intro i hi
  rw [List.length_take, tz_len] at hi
  rw [getD_take (by omega), tz_at (by omega), ks, show i / 16 = 0 by omega, show i % 16 = i by omega]; rfl
theorem wraps3 (kl cl : List UInt8) (q : Nat) : (turned kl cl 0 (zN (16 * (q + 1)))).drop (16 * q) = rblk kl (cI cl q) := by
  apply ext_getD (by simp [tz_len, rblk_len]; omega)
  intro i hi
  rw [List.length_drop, tz_len] at hi
  rw [getD_drop, tz_at (by omega), ks, show (16 * q + i) / 16 = q by omega, show (16 * q + i) % 16 = i by omega]
theorem outT_turned0 {kl cl : List UInt8} (hc : cl.length = 16) (bl : List UInt8) : outT (keys kl) (cl, []) bl bl.length = turned kl cl 0 bl := outT_turned hc 0 bl
theorem back_nat (p : Int) : ∃ B : Nat, B < 200 ∧ (p.tmod 200 + 200).tmod 200 = (B : Int) ∧ 0 ≤ p.tmod 200 + 200 ∧ p.tmod 200 + 200 ≤ 400 := by
  have h1 : p.tmod 200 < 200 := Int.tmod_lt_of_pos p (by decide)
  have h2 : -200 < p.tmod 200 := by
    have := Int.lt_tmod_of_pos p (b := 200) (by decide)
    omega
  have h3 : (p.tmod 200 + 200).tmod 200 = (p.tmod 200 + 200) % 200 := Int.tmod_eq_emod_of_nonneg (by omega)
  exact ⟨((p.tmod 200 + 200) % 200).toNat, by omega, by omega, by omega, by omega⟩
theorem zrep (N : Nat) : blk 5 (List.replicate N (Value.int .u8 0)) = blkB 5 (zN N) := by rw [rep_vB]; rfl
theorem zrepB (N : Nat) : blk 5 (List.replicate N (Value.int .u8 0)) = blkB 5 (List.replicate N 0) := by rw [rep_vB]; rfl


set_option maxHeartbeats 2000000 in
theorem wraps_true {kv : Value} {kl bl : List UInt8} {p : Int} {w0 : World} (hkv : Rd w0 kv (kl.map vB)) (hp : -9223372036854775808 ≤ p ∧ p ≤ 9223372036854775807) (hb : bl.length = 16) :
    Calls Try.prog 7 #[kv, .int .i64 p, .agg (bl.map vB).toArray] w0 fun e w' => e = .returned (.bool true) ∧ Ext w0 w' := by
  obtain ⟨Ak, ck, rfl, hk1, hk2, hkc⟩ := hkv.isB
  clear hkc
  refine calls_start 138 Try.func7 rfl Try.ntmps7 rfl fun a hF => ?_
  have hS := St.refl w0
  refine wp_seq_k fun Kq1 hKq1 => ?_
  -- region 0 (law.go:103)
  refine wp_region_lit ?_
  refine wpList_stp (stp_box hF (wanted_none rfl) rfl rfl rfl (hF.t rfl) rfl hS fun bb a w hF hS => ?_)
  refine wpList_stp (stp_gv hF (wanted_none rfl) rfl rfl (gv_assign rfl (ev_const _ _)) fun a hF => ?_)
  refine wpList_nil ?_
  refine then_normal (hKq1 _ _ ?_)
  refine wp_seq_k fun Kq2 hKq2 => ?_
  refine wp_seq_k fun Kq3 hKq3 => ?_
  -- region 1 (law.go:104)
  refine wp_region_lit ?_
  refine wpList_stp (stp_call hF (wanted_none rfl) rfl rfl Try.ok8 rfl Evs.nil (fit_ok) fun e w h => ?_)
  obtain ⟨rfl, hx⟩ := h
  refine ⟨_, rfl, fun a hF => ?_⟩
  replace hS := hS.ext hx
  clear hx
  refine wpList_stp (stp_gv hF (wanted_none rfl) rfl rfl (gv_not rfl (hF.t rfl)) fun a hF => ?_)
  refine wpList_nil ?_
  refine then_normal (hKq3 _ _ ?_)
  refine wp_cond_false (hF.t rfl) ?_
  refine wp_skip ?_
  refine then_normal (hKq2 _ _ ?_)
  refine wp_seq_k fun Kq4 hKq4 => ?_
  refine wp_seq_k fun Kq5 hKq5 => ?_
  -- region 3 (law.go:107)
  refine wp_region_lit ?_
  refine wpList_stp (stp_gv hF (wanted_none rfl) rfl rfl (gv_move rfl (hF.t rfl)) fun a hF => ?_)
  refine wpList_stp (stp_gv hF (wanted_none rfl) rfl rfl (gv_len rfl Try.underlying22 (hF.t rfl)) fun a hF => ?_)
  refine wpList_stp (stp_gv hF (wanted_none rfl) rfl rfl (gv_neq rfl (hF.t rfl) (ev_const _ _)) fun a hF => ?_)
  refine wpList_nil ?_
  refine then_normal (hKq5 _ _ ?_)
  refine cond_dec (hF.t rfl) (fun h24 => ?_) (fun h24 => ?_)
  ·
    refine wp_seq_k fun Kq6 hKq6 => ?_
    -- region 4 (law.go:108)
    refine wp_region_lit ?_
    refine wpList_stp (stp_gv hF (wanted_none rfl) rfl rfl (gv_assign rfl (ev_const _ _)) fun a hF => ?_)
    refine wpList_nil ?_
    refine then_normal (hKq6 _ _ ?_)
    refine wp_ret ?_
    refine then_ret ?_
    refine ret1 (fn := Try.f7) (t := 6) hF rfl rfl ?_
    exact ⟨rfl, hS.toExt (nw_cons rfl nw_nil)⟩
  ·
    have hlk : kl.length = 16 := by omega
    obtain ⟨B, hB, hBe, hB1, hB2⟩ := back_nat p
    refine wp_skip ?_
    refine then_normal (hKq4 _ _ ?_)
    refine wp_seq_k fun Kq7 hKq7 => ?_
    -- region 5 (law.go:110)
    refine wp_region_lit ?_
    refine wpList_stp (stp_make (n := 16) hF (wanted_none rfl) rfl rfl rfl Try.underlying22 Try.ty5 rfl rfl rfl (by omega) (by omega) hS fun c a w hF hS => ?_)
    rw [zrepB] at hS
    refine wpList_stp (stp_gv hF (wanted_none rfl) rfl rfl (gv_assign rfl (hF.t rfl)) fun a hF => ?_)
    refine wpList_nil ?_
    refine then_normal (hKq7 _ _ ?_)
    refine wp_seq_k fun Kq8 hKq8 => ?_
    refine wp_seq_k fun Kq9 hKq9 => ?_
    -- region 6 (law.go:111)
    refine wp_region_lit ?_
    refine wpList_stp (stp_gv hF (wanted_none rfl) rfl rfl (gv_move rfl (hF.t rfl)) fun a hF => ?_)
    refine wpList_stp (stp_gv hF (wanted_none rfl) rfl rfl (gv_len rfl Try.underlying22 (hF.t rfl)) fun a hF => ?_)
    refine wpList_stp (stp_gv hF (wanted_none rfl) rfl rfl (gv_move rfl (ev_const _ _)) fun a hF => ?_)
    refine wpList_nil ?_
    refine then_normal (hKq9 _ _ ?_)
    refine wp_block ?_
    refine wp_loop_n (fun n a w => ∃ i, i ≤ 16 ∧ n = 16 - i ∧ Fr 138 a [(0, .slice Ak kl.length ck), (1, .int .i64 p), (5, .pointer (some ⟨bb, 0, none⟩)), (7, .slice (some ⟨c, 0, none⟩) 16 16), (27, vI 16), (28, vI i)] ∧ St w0 w [⟨true, some c, blkB 5 (ffs i)⟩, ⟨true, some bb, blkB 23 bl⟩]) 16 ⟨0, by omega, by omega, hF.sub ⟨rfl, rfl, rfl, rfl, rfl, rfl, trivial⟩, hS⟩ ?_
    rintro n a w ⟨i, hi, hn, hF, hS⟩
    refine wp_seq_k fun Kq10 hKq10 => ?_
    -- region 7 (law.go:111)
    refine wp_region_lit ?_
    refine wpList_stp (stp_gv hF (wanted_none rfl) rfl rfl (gv_lss rfl (hF.t rfl) (hF.t rfl)) fun a hF => ?_)
    refine wpList_nil ?_
    refine then_normal (hKq10 _ _ ?_)
    refine wp_seq_k fun Kq11 hKq11 => ?_
    refine cond_dec (hF.t rfl) (fun h29 => ?_) (fun h29 => ?_)
    ·
      refine wp_skip ?_
      refine then_normal (hKq11 _ _ ?_)
      refine wp_seq_k fun Kq12 hKq12 => ?_
      refine wp_block ?_
      refine wp_seq_k fun Kq13 hKq13 => ?_
      -- region 8 (law.go:111)
      refine wp_region_lit ?_
      refine wpList_stp (stp_gv hF (wanted_none rfl) rfl rfl (gv_move rfl (hF.t rfl)) fun a hF => ?_)
      refine wpList_stp (stp_gv hF (wanted_none rfl) rfl rfl (gv_assign rfl (hF.t rfl)) fun a hF => ?_)
      refine wpList_nil ?_
      refine then_normal (hKq13 _ _ ?_)
      -- region 9 (law.go:112)
      refine wp_region_lit ?_
      refine wpList_stp (stp_gv hF (wanted_none rfl) rfl rfl (gv_move rfl (hF.t rfl)) fun a hF => ?_)
      refine wpList_stp (stp_gv hF (wanted_none rfl) rfl rfl (gv_move rfl (hF.t rfl)) fun a hF => ?_)
      refine wpList_stp (stp_gv hF (wanted_none rfl) rfl rfl (gv_indexSl rfl Try.underlying22 Try.sz5 (hF.t rfl) (hF.t rfl) (by omega)) fun a hF => ?_)
      refine wpList_stp (stp_storeB (v := 255) i hF (wanted_none rfl) rfl rfl Try.sz5 (hF.t rfl) (by omega) rfl hS (k := 0) rfl (by rw [ffs_len]; omega) fun w hS => ?_)
      refine wpList_nil ?_
      refine block_normal ?_
      refine then_normal (hKq12 _ _ ?_)
      -- region 10 (law.go:111)
      refine wp_region_lit ?_
      refine wpList_stp (stp_gv hF (wanted_none rfl) rfl rfl (gv_nadd (n := 1) rfl (hF.t rfl) rfl (by omega)) fun a hF => ?_)
      refine wpList_stp (stp_gv hF (wanted_none rfl) rfl rfl (gv_move rfl (hF.t rfl)) fun a hF => ?_)
      refine wpList_nil ?_
      refine then_normal ?_
      exact ⟨n - 1, by omega, i + 1, by omega, by omega, hF.sub ⟨rfl, rfl, rfl, rfl, rfl, rfl, trivial⟩, hS⟩
    ·
      refine wp_exit ?_
      refine then_exit ?_
      refine then_exit ?_
      refine block_exit ?_
      refine then_normal (hKq8 _ _ ?_)
      refine wp_seq_k fun Kq14 hKq14 => ?_
      obtain rfl : i = 16 := by omega
      -- region 11 (law.go:114)
      refine wp_region_lit ?_
      refine wpList_stp (stp_gv hF (wanted_none rfl) rfl rfl (gv_move rfl (hF.t rfl)) fun a hF => ?_)
      refine wpList_stp (stp_gv hF (wanted_none rfl) rfl rfl (gv_rem rfl (hF.t rfl) (ev_const _ _) (by decide)) fun a hF => ?_)
      refine wpList_stp (stp_gv hF (wanted_none rfl) rfl rfl (gv_add rfl (hF.t rfl) (ev_const _ _) (by omega) (by omega)) fun a hF => ?_)
      refine wpList_stp (stp_gv hF (wanted_none rfl) rfl rfl (gv_rem rfl (hF.t rfl) (ev_const _ _) (by decide)) fun a hF => ?_)
      rw [hBe] at hF
      refine wpList_stp (stp_gv hF (wanted_none rfl) rfl rfl (gv_assign rfl (hF.t rfl)) fun a hF => ?_)
      refine wpList_nil ?_
      refine then_normal (hKq14 _ _ ?_)
      refine wp_seq_k fun Kq15 hKq15 => ?_
      -- region 12 (law.go:115)
      refine wp_region_lit ?_
      refine wpList_stp (stp_gv hF (wanted_none rfl) rfl rfl (gv_move rfl (hF.t rfl)) fun a hF => ?_)
      refine wpList_stp (stp_gv hF (wanted_none rfl) rfl rfl (gv_indexSl (q := 15) rfl Try.underlying22 Try.sz5 (hF.t rfl) rfl (by omega)) fun a hF => ?_)
      refine wpList_stp (stp_gv hF (wanted_none rfl) rfl rfl (gv_load rfl Try.underlying5 rfl (hF.t rfl) (cell_ix (hS.cellB (k := 0) rfl (15) (by rw [ffs_len]; omega)) (by omega))) fun a hF => ?_)
      refine wpList_stp (stp_gv hF (wanted_none rfl) rfl rfl (gv_move rfl (hF.t rfl)) fun a hF => ?_)
      refine wpList_stp (stp_gv hF (wanted_none rfl) rfl rfl (gv_conv_i_b rfl Try.underlying3 Try.underlying5 (hF.t rfl)) fun a hF => ?_)
      refine wpList_stp (stp_gv hF (wanted_none rfl) rfl rfl (gv_b_sub rfl (hF.t rfl) (hF.t rfl)) fun a hF => ?_)
      refine wpList_stp (stp_gv hF (wanted_none rfl) rfl rfl (gv_indexSl (q := 15) rfl Try.underlying22 Try.sz5 (hF.t rfl) rfl (by omega)) fun a hF => ?_)
      refine wpList_stp (stp_storeB (15) hF (wanted_none rfl) rfl rfl Try.sz5 (hF.t rfl) (by omega) (hF.t rfl) hS (k := 0) rfl (by rw [ffs_len]; omega) fun w hS => ?_)
      simp only [List.set_cons_zero] at hS
      rw [ff16_def] at hS
      refine wpList_nil ?_
      refine then_normal (hKq15 _ _ ?_)
      refine wp_seq_k fun Kq16 hKq16 => ?_
      -- region 13 (law.go:116)
      refine wp_region_lit ?_
      refine wpList_stp (stp_gv hF (wanted_none rfl) rfl rfl (gv_move rfl (hF.t rfl)) fun a hF => ?_)
      refine wpList_stp (stp_gv hF (wanted_none rfl) rfl rfl (gv_move rfl (hF.t rfl)) fun a hF => ?_)
      refine wpList_stp (stp_call hF (wanted_none rfl) rfl rfl Try.ok9 rfl (Evs.cons (hF.t rfl) (Evs.cons (hF.t rfl) Evs.nil)) (new_st (hkv.ext (hS.toExt (nw_cons rfl (nw_cons rfl nw_nil)))) (rd_blkB hS List.mem_cons_self (ff16_len B) (by omega)) hlk (ff16_len B)) fun e w h => ?_)
      obtain ⟨s, rfl, hN⟩ := h
      refine ⟨_, rfl, fun a hF => ?_⟩
      replace hS := hS.join hN (nw_cons rfl (nw_cons rfl nw_nil))
      simp only [List.cons_append, List.nil_append] at hS
      clear hN
      refine wpList_stp (stp_gv hF (wanted_none rfl) rfl rfl (gv_move rfl (hF.t rfl)) fun a hF => ?_)
      refine wpList_stp (stp_gv hF (wanted_none rfl) rfl rfl (gv_extract rfl (hF.t rfl) rfl) fun a hF => ?_)
      refine wpList_stp (stp_gv hF (wanted_none rfl) rfl rfl (gv_extract rfl (hF.t rfl) rfl) fun a hF => ?_)
      refine wpList_stp (stp_gv hF (wanted_none rfl) rfl rfl (gv_assign rfl (hF.t rfl)) fun a hF => ?_)
      refine wpList_stp (stp_gv hF (wanted_none rfl) rfl rfl (gv_assign rfl (hF.t rfl)) fun a hF => ?_)
      refine wpList_nil ?_
      refine then_normal (hKq16 _ _ ?_)
      refine wp_seq_k fun Kq17 hKq17 => ?_
      -- region 14 (law.go:117)
      refine wp_region_lit ?_
      refine wpList_stp (stp_gv hF (wanted_none rfl) rfl rfl (gv_move rfl (hF.t rfl)) fun a hF => ?_)
      replace hS := hS.addNil (blk 5 ([] ++ []))
      have hR : Rd w (.slice (some ⟨c, 0, none⟩) 16 16) ((ff16 B).map vB) := rd_blkB hS (List.mem_of_getElem? (i := 3) rfl) (ff16_len B) (by omega)
      refine wpList_stp (stp_append (ob := none) (xs := []) (pad := []) (k := 0) hF (wanted_none rfl) rfl rfl rfl Try.underlying22 Try.ty5 rfl (ev_const _ _) (hF.t rfl) hS rfl (fun _ => ⟨rfl, rfl⟩) (by simp) hR (one_B _) (by simp [ff16_len]) (by simp [ff16_len]) fun d dp a w hF dob dc hS => ?_)
      simp only [List.length_nil, Nat.zero_add, List.nil_append, List.length_map, List.map_eq_nil_iff, ff16_len] at hF hS dob dc
      obtain ⟨d, rfl⟩ : ∃ b, d = some b := by
        cases d with
        | none => exact absurd (congrArg List.length (dob rfl).1) (by simp [ff16_len])
        | some b => exact ⟨b, rfl⟩
      clear hR dob
      refine wpList_stp (stp_gv hF (wanted_none rfl) rfl rfl (gv_assign rfl (hF.t rfl)) fun a hF => ?_)
      refine wpList_nil ?_
      refine then_normal (hKq17 _ _ ?_)
      refine wp_cut (fun a w => Fr 138 a [(0, .slice Ak kl.length ck), (1, vI B), (5, .pointer (some ⟨bb, 0, none⟩)), (7, .slice (some ⟨c, 0, none⟩) 16 16), (9, .pointer (some ⟨s, 0, none⟩)), (11, .slice (some ⟨d, 0, none⟩) 16 (16 + dp.length))] ∧ St w0 w [⟨true, some d, blk 5 ((incC (ff16 B)).map vB ++ dp)⟩, ⟨true, some s, strm (keys kl) (ff16 B) (.slice none 0 0)⟩, nokb, ⟨true, some c, blkB 5 (ff16 B)⟩, ⟨true, some bb, blkB 23 bl⟩]) ?_ ?_
      ·
        refine wp_seq_k fun Kq18 hKq18 => ?_
        -- region 15 (law.go:118)
        refine wp_region_lit ?_
        refine wpList_stp (stp_gv hF (wanted_none rfl) rfl rfl (gv_assign rfl (ev_const _ _)) fun a hF => ?_)
        refine wpList_nil ?_
        refine then_normal (hKq18 _ _ ?_)
        refine wp_block ?_
        refine wp_loop_n (fun q a w => ∃ j D, j ≤ 16 ∧ q = j ∧ D.length = 16 ∧ incl D j = incC (ff16 B) ∧ Fr 138 a [(0, .slice Ak kl.length ck), (1, vI B), (5, .pointer (some ⟨bb, 0, none⟩)), (7, .slice (some ⟨c, 0, none⟩) 16 16), (9, .pointer (some ⟨s, 0, none⟩)), (11, .slice (some ⟨d, 0, none⟩) 16 (16 + dp.length)), (12, ctr j)] ∧ St w0 w [⟨true, some d, blk 5 (D.map vB ++ dp)⟩, ⟨true, some s, strm (keys kl) (ff16 B) (.slice none 0 0)⟩, nokb, ⟨true, some c, blkB 5 (ff16 B)⟩, ⟨true, some bb, blkB 23 bl⟩]) 16 ⟨16, ff16 B, by omega, rfl, ff16_len B, rfl, hF.sub ⟨rfl, rfl, rfl, rfl, rfl, rfl, rfl, trivial⟩, hS⟩ ?_
        rintro q a w ⟨j, D, hj, hq, hCj, hinc, hF, hS⟩
        refine wp_seq_k fun Kq19 hKq19 => ?_
        refine wp_seq_k fun Kq20 hKq20 => ?_
        -- region 16 (law.go:118)
        refine wp_region_lit ?_
        refine wpList_stp (stp_gv hF (wanted_none rfl) rfl rfl (gv_move rfl (hF.t rfl)) fun a hF => ?_)
        refine wpList_stp (stp_gv hF (wanted_none rfl) rfl rfl (gv_geq rfl (hF.t rfl) (ev_const _ _)) fun a hF => ?_)
        refine wpList_nil ?_
        refine then_normal (hKq20 _ _ ?_)
        refine cond_dec (hF.t rfl) (fun h55 => ?_) (fun h55 => ?_)
        ·
          obtain ⟨j, rfl⟩ : ∃ i, j = i + 1 := ⟨j - 1, by unfold ctr at *; omega⟩
          replace hF : Fr 138 a [(0, .slice Ak kl.length ck), (1, vI B), (5, .pointer (some ⟨bb, 0, none⟩)), (7, .slice (some ⟨c, 0, none⟩) 16 16), (9, .pointer (some ⟨s, 0, none⟩)), (11, .slice (some ⟨d, 0, none⟩) 16 (16 + dp.length)), (12, vI j)] := hF.sub ⟨rfl, rfl, rfl, rfl, rfl, rfl, congrArg some (ctr_succ j), trivial⟩
          refine wp_skip ?_
          refine then_normal (hKq19 _ _ ?_)
          refine wp_seq_k fun Kq21 hKq21 => ?_
          refine wp_block ?_
          refine wp_seq_k fun Kq22 hKq22 => ?_
          -- region 18 (law.go:119)
          refine wp_region_lit ?_
          refine wpList_stp (stp_gv hF (wanted_none rfl) rfl rfl (gv_move rfl (hF.t rfl)) fun a hF => ?_)
          refine wpList_stp (stp_gv hF (wanted_none rfl) rfl rfl (gv_move rfl (hF.t rfl)) fun a hF => ?_)
          refine wpList_stp (stp_gv hF (wanted_none rfl) rfl rfl (gv_indexSl rfl Try.underlying22 Try.sz5 (hF.t rfl) (hF.t rfl) (by omega)) fun a hF => ?_)
          refine wpList_stp (stp_gv hF (wanted_none rfl) rfl rfl (gv_load rfl Try.underlying5 rfl (hF.t rfl) (cell_ix (j := j) (hS.cell (k := 0) rfl (at_map (by omega) 0)) (by omega))) fun a hF => ?_)
          refine wpList_stp (stp_gv hF (wanted_none rfl) rfl rfl (gv_b_add (n := 1) rfl (hF.t rfl) rfl) fun a hF => ?_)
          refine wpList_stp (stp_gv hF (wanted_none rfl) rfl rfl (gv_indexSl rfl Try.underlying22 Try.sz5 (hF.t rfl) (hF.t rfl) (by omega)) fun a hF => ?_)
          refine wpList_stp (stp_storeAt (j) hF (wanted_none rfl) rfl rfl Try.sz5 (hF.t rfl) (by omega) (hF.t rfl) rfl hS (k := 0) rfl (by simp; omega) fun w hS => ?_)
          simp only [List.set_cons_zero] at hS
          rw [set_map (by omega)] at hS
          refine wpList_nil ?_
          refine then_normal (hKq22 _ _ ?_)
          refine wp_seq_k fun Kq23 hKq23 => ?_
          -- region 19 (law.go:119)
          refine wp_region_lit ?_
          refine wpList_stp (stp_gv hF (wanted_none rfl) rfl rfl (gv_move rfl (hF.t rfl)) fun a hF => ?_)
          refine wpList_stp (stp_gv hF (wanted_none rfl) rfl rfl (gv_move rfl (hF.t rfl)) fun a hF => ?_)
          refine wpList_stp (stp_gv hF (wanted_none rfl) rfl rfl (gv_indexSl rfl Try.underlying22 Try.sz5 (hF.t rfl) (hF.t rfl) (by omega)) fun a hF => ?_)
          refine wpList_stp (stp_gv hF (wanted_none rfl) rfl rfl (gv_load rfl Try.underlying5 rfl (hF.t rfl) (cell_ix (j := j) (hS.cell (k := 0) rfl (at_map (by rw [List.length_set]; omega) 0)) (by omega))) fun a hF => ?_)
          refine wpList_stp (stp_gv hF (wanted_none rfl) rfl rfl (gv_neq rfl (hF.t rfl) (ev_const _ _)) fun a hF => ?_)
          refine wpList_nil ?_
          refine then_normal (hKq23 _ _ ?_)
          refine cond_dec (hF.t rfl) (fun h68 => ?_) (fun h68 => ?_)
          ·
            refine wp_exit ?_
            refine block_exit_ne (by decide) ?_
            refine then_exit ?_
            refine then_exit ?_
            refine block_exit ?_
            refine then_normal ?_
            rw [set_getD (by omega)] at h68
            exact ⟨hF.sub ⟨rfl, rfl, rfl, rfl, rfl, rfl, trivial⟩, by rw [← hinc, incl, if_pos (ne0 h68)]; exact hS⟩
          ·
            refine wp_skip ?_
            refine block_normal ?_
            refine then_normal (hKq21 _ _ ?_)
            -- region 17 (law.go:118)
            refine wp_region_lit ?_
            refine wpList_stp (stp_gv hF (wanted_none rfl) rfl rfl (gv_move rfl (hF.t rfl)) fun a hF => ?_)
            refine wpList_stp (stp_gv hF (wanted_none rfl) rfl rfl (gv_sub rfl (hF.t rfl) (ev_const _ _) (by omega) (by omega)) fun a hF => ?_)
            refine wpList_stp (stp_gv hF (wanted_none rfl) rfl rfl (gv_assign rfl (hF.t rfl)) fun a hF => ?_)
            refine wpList_nil ?_
            refine then_normal ?_
            rw [set_getD (by omega)] at h68
            have hz : D.getD j 0 + 1 = 0 := eq0 h68
            exact ⟨q - 1, by omega, j, D.set j (D.getD j 0 + 1), by omega, by omega, by rw [List.length_set, hCj], by rw [← hinc, incl, if_neg (fun h => h hz)], hF.sub ⟨rfl, rfl, rfl, rfl, rfl, rfl, rfl, trivial⟩, hS⟩
        ·
          refine wp_exit ?_
          refine then_exit ?_
          refine then_exit ?_
          refine block_exit ?_
          refine then_normal ?_
          obtain rfl : j = 0 := by unfold ctr at *; omega
          exact ⟨hF.sub ⟨rfl, rfl, rfl, rfl, rfl, rfl, trivial⟩, by rw [← hinc]; exact hS⟩
      · rintro a w ⟨hF, hS⟩
        refine wp_seq_k fun Kq24 hKq24 => ?_
        -- region 20 (law.go:123)
        refine wp_region_lit ?_
        refine wpList_stp (stp_gv hF (wanted_none rfl) rfl rfl (gv_move rfl (hF.t rfl)) fun a hF => ?_)
        refine wpList_stp (stp_gv hF (wanted_none rfl) rfl rfl (gv_move rfl (hF.t rfl)) fun a hF => ?_)
        refine wpList_stp (stp_call hF (wanted_none rfl) rfl rfl Try.ok9 rfl (Evs.cons (hF.t rfl) (Evs.cons (hF.t rfl) Evs.nil)) (new_st (hkv.ext (hS.toExt (nw_cons rfl (nw_cons rfl (nw_cons rfl (nw_cons rfl (nw_cons rfl nw_nil))))))) (rd_own (n := 16) (l := incC (ff16 B)) hS List.mem_cons_self (nw_cons rfl (nw_cons rfl (nw_cons rfl (nw_cons rfl (nw_cons rfl nw_nil))))) (fun h => by cases h) (by rw [incC_len, ff16_len]) dc) hlk (by rw [incC_len, ff16_len])) fun e w h => ?_)
        obtain ⟨t, rfl, hN⟩ := h
        refine ⟨_, rfl, fun a hF => ?_⟩
        replace hS := hS.join hN (nw_cons rfl (nw_cons rfl nw_nil))
        simp only [List.cons_append, List.nil_append] at hS
        clear hN
        refine wpList_stp (stp_gv hF (wanted_none rfl) rfl rfl (gv_move rfl (hF.t rfl)) fun a hF => ?_)
        refine wpList_stp (stp_gv hF (wanted_none rfl) rfl rfl (gv_extract rfl (hF.t rfl) rfl) fun a hF => ?_)
        refine wpList_stp (stp_gv hF (wanted_none rfl) rfl rfl (gv_extract rfl (hF.t rfl) rfl) fun a hF => ?_)
        refine wpList_stp (stp_gv hF (wanted_none rfl) rfl rfl (gv_assign rfl (hF.t rfl)) fun a hF => ?_)
        refine wpList_stp (stp_gv hF (wanted_none rfl) rfl rfl (gv_assign rfl (hF.t rfl)) fun a hF => ?_)
        refine wpList_nil ?_
        refine then_normal (hKq24 _ _ ?_)
        refine wp_seq_k fun Kq25 hKq25 => ?_
        -- region 21 (law.go:124)
        refine wp_region_lit ?_
        refine wpList_stp (stp_gv hF (wanted_none rfl) rfl rfl (gv_move rfl (hF.t rfl)) fun a hF => ?_)
        refine wpList_stp (stp_gv hF (wanted_none rfl) rfl rfl (gv_nadd (n := 3) rfl (hF.t rfl) rfl (by omega)) fun a hF => ?_)
        refine wpList_stp (stp_gv hF (wanted_none rfl) rfl rfl (gv_nmul (m := 16) rfl rfl (hF.t rfl) (by omega)) fun a hF => ?_)
        refine wpList_stp (stp_make hF (wanted_none rfl) rfl rfl rfl Try.underlying22 Try.ty5 rfl (hF.t rfl) (hF.t rfl) (by omega) (by omega) hS fun z a w hF hS => ?_)
        refine wpList_stp (stp_gv hF (wanted_none rfl) rfl rfl (gv_assign rfl (hF.t rfl)) fun a hF => ?_)
        refine wpList_nil ?_
        refine then_normal (hKq25 _ _ ?_)
        refine wp_seq_k fun Kq26 hKq26 => ?_
        -- region 22 (law.go:125)
        refine wp_region_lit ?_
        refine wpList_stp (stp_gv hF (wanted_none rfl) rfl rfl (gv_move rfl (hF.t rfl)) fun a hF => ?_)
        refine wpList_stp (stp_gv hF (wanted_none rfl) rfl rfl (gv_move rfl (hF.t rfl)) fun a hF => ?_)
        rw [zrep] at hS
        replace hS := hS.move (k := 5) rfl
        simp only [List.eraseIdx_cons_succ, List.eraseIdx_cons_zero] at hS
        replace hS := hS.move (k := 5) rfl
        simp only [List.eraseIdx_cons_succ, List.eraseIdx_cons_zero] at hS
        refine wpList_stp (stp_call hF (wanted_none rfl) rfl rfl Try.ok11 rfl (Evs.cons (hF.t rfl) (Evs.cons (hF.t rfl) Evs.nil)) (turn_ok (nw_cons rfl (nw_cons rfl (nw_cons rfl (nw_cons rfl (nw_cons rfl (nw_cons rfl nw_nil)))))) hS nil_left (bl := zN (16 * (B + 3))) (SRd.arr (List.mem_of_getElem? (i := 0) rfl) (zN_len _) (by omega)) (keys_len kl) (ff16_len B) (by rw [zN_len]; omega)) fun e w h => ?_)
        obtain ⟨x, xp, xl, xk, xB, rfl, xo, xc, hS, xL⟩ := h
        refine ⟨_, rfl, fun a hF => ?_⟩
        rw [outT_turned0 (ff16_len B)] at hS
        simp only [zN_len] at hF hS xo xc
        obtain ⟨x, rfl⟩ : ∃ b, x = some b := by
          cases x with
          | none => exact absurd (congrArg List.length (xo rfl).1) (by simp [zN])
          | some b => exact ⟨b, rfl⟩
        refine wpList_stp (stp_gv hF (wanted_none rfl) rfl rfl (gv_move rfl (hF.t rfl)) fun a hF => ?_)
        refine wpList_stp (stp_gv hF (wanted_none rfl) rfl rfl (gv_move rfl (hF.t rfl)) fun a hF => ?_)
        replace hS := hS.move (k := 5) rfl
        simp only [List.eraseIdx_cons_succ, List.eraseIdx_cons_zero] at hS
        replace hS := hS.move (k := 5) rfl
        simp only [List.eraseIdx_cons_succ, List.eraseIdx_cons_zero] at hS
        refine wpList_stp (stp_call hF (wanted_none rfl) rfl rfl Try.ok11 rfl (Evs.cons (hF.t rfl) (Evs.cons (hF.t rfl) Evs.nil)) (turn_ok (nw_cons rfl (nw_cons rfl (nw_cons rfl (nw_cons rfl (nw_cons rfl (nw_cons rfl (nw_cons rfl nw_nil))))))) hS nil_left (bl := zN (16 * (B + 3))) (SRd.arr (List.mem_of_getElem? (i := 3) rfl) (zN_len _) (by omega)) (keys_len kl) (by rw [incC_len, ff16_len]) (by rw [zN_len]; omega)) fun e w h => ?_)
        obtain ⟨y, yp, yl, yk, yB, rfl, yo, yc, hS, yL⟩ := h
        refine ⟨_, rfl, fun a hF => ?_⟩
        rw [outT_turned0 (by rw [incC_len, ff16_len])] at hS
        simp only [zN_len] at hF hS yo yc
        obtain ⟨y, rfl⟩ : ∃ b, y = some b := by
          cases y with
          | none => exact absurd (congrArg List.length (yo rfl).1) (by simp [zN])
          | some b => exact ⟨b, rfl⟩
        refine wpList_stp (stp_gv hF (wanted_none rfl) rfl rfl (gv_assign rfl (hF.t rfl)) fun a hF => ?_)
        refine wpList_stp (stp_gv hF (wanted_none rfl) rfl rfl (gv_assign rfl (hF.t rfl)) fun a hF => ?_)
        refine wpList_nil ?_
        refine then_normal (hKq26 _ _ ?_)
        refine wp_seq_k fun Kq27 hKq27 => ?_
        -- region 23 (law.go:126)
        refine wp_region_lit ?_
        refine wpList_stp (stp_gv hF (wanted_none rfl) rfl rfl (gv_move rfl (hF.t rfl)) fun a hF => ?_)
        refine wpList_stp (stp_gv hF (wanted_none rfl) rfl rfl (gv_move rfl (hF.t rfl)) fun a hF => ?_)
        refine wpList_stp (stp_gv hF (wanted_none rfl) rfl rfl (gv_toArr rfl Try.underlying23 (hF.t rfl) (by omega)) fun a hF => ?_)
        refine wpList_stp (stp_gv hF (wanted_none rfl) rfl rfl (gv_loadAgg (vs := (ff16 B).map vB) rfl Try.underlying23 rfl (Try.sz23.trans (congrArg some (by rw [List.length_map, ff16_len]))) (hF.t rfl) (fun j u hu => (rd_blkB hS (List.mem_of_getElem? (i := 8) rfl) (ff16_len B) (by omega)).rdcell hu)) fun a hF => ?_)
        refine wpList_stp (stp_call hF (wanted_none rfl) rfl rfl Try.ok10 rfl (Evs.cons (hF.t rfl) (Evs.cons (hF.t rfl) Evs.nil)) (block_ok (hS.has _ (List.mem_of_getElem? (i := 4) rfl) _ rfl) (keys_len kl) (ff16_len B)) fun e w h => ?_)
        obtain ⟨rfl, hx⟩ := h
        refine ⟨_, rfl, fun a hF => ?_⟩
        replace hS := hS.ext hx
        clear hx
        refine wpList_stp (stp_alloc hF (wanted_none rfl) rfl rfl rfl Try.zv23 rfl hS fun fst a w hF hS => ?_)
        refine wpList_stp (stp_storeAll hF (wanted_none rfl) rfl rfl (Try.sz23.trans (congrArg some (by rw [List.length_map, blockF_len (ff16_len B)]))) (hF.t rfl) (hF.t rfl) (one_B _) hS (k := 0) rfl (by rw [List.length_map, blockF_len (ff16_len B)]; rfl) fun w hS => ?_)
        refine wpList_nil ?_
        refine then_normal (hKq27 _ _ ?_)
        refine wp_seq_k fun Kq28 hKq28 => ?_
        -- region 24 (law.go:127)
        refine wp_region_lit ?_
        refine wpList_stp (stp_gv hF (wanted_none rfl) rfl rfl (gv_move rfl (hF.t rfl)) fun a hF => ?_)
        refine wpList_stp (stp_gv hF (wanted_none rfl) rfl rfl (gv_build (v := .agg (one16.map vB).toArray) rfl (EvP.map (EvP.cons (ev_const _ _) EvP.nil)) (run_buildArr (cs := (one16.map vB).toArray) Try.underlying23 Try.sz5 Try.zv23 rfl (by rfl))) fun a hF => ?_)
        refine wpList_stp (stp_call hF (wanted_none rfl) rfl rfl Try.ok10 rfl (Evs.cons (hF.t rfl) (Evs.cons (hF.t rfl) Evs.nil)) (block_ok (hS.has _ (List.mem_of_getElem? (i := 5) rfl) _ rfl) (keys_len kl) one16_len) fun e w h => ?_)
        obtain ⟨rfl, hx⟩ := h
        refine ⟨_, rfl, fun a hF => ?_⟩
        replace hS := hS.ext hx
        clear hx
        refine wpList_stp (stp_alloc hF (wanted_none rfl) rfl rfl rfl Try.zv23 rfl hS fun lst a w hF hS => ?_)
        refine wpList_stp (stp_storeAll hF (wanted_none rfl) rfl rfl (Try.sz23.trans (congrArg some (by rw [List.length_map, blockF_len one16_len]))) (hF.t rfl) (hF.t rfl) (one_B _) hS (k := 0) rfl (by rw [List.length_map, blockF_len one16_len]; rfl) fun w hS => ?_)
        refine wpList_nil ?_
        refine then_normal (hKq28 _ _ ?_)
        refine wp_seq_k fun Kq29 hKq29 => ?_
        -- region 25 (law.go:128)
        refine Fw.wp_region_draw (by kernel_rfl) fun w hx => ?_
        replace hS := hS.ext hx
        clear hx
        refine run_head0 (n := 46) _ hF (by kernel_rfl) rfl ?_
        refine dw_gv hF rfl (wanted_none rfl) rfl rfl (fun w hx => gv_move rfl (hF.t rfl)) fun a hF => ?_
        refine dw_gv hF rfl (wanted_none rfl) rfl rfl (fun w hx => gv_len rfl Try.underlying22 (hF.t rfl)) fun a hF => ?_
        refine dw_gv hF rfl (wanted_none rfl) rfl rfl (fun w hx => gv_move rfl (hF.t rfl)) fun a hF => ?_
        refine dw_gv hF rfl (wanted_none rfl) rfl rfl (fun w hx => gv_len rfl Try.underlying22 (hF.t rfl)) fun a hF => ?_
        refine dw_gv hF rfl (wanted_none rfl) rfl rfl (fun w hx => gv_eqlT rfl (hF.t rfl) (hF.t rfl) (rfl)) fun a hF => ?_
        refine dw_gv hF rfl (wanted_none rfl) rfl rfl (fun w hx => gv_move rfl (hF.t rfl)) fun a hF => ?_
        refine dw_gv hF rfl (wanted_of hF rfl rfl (rfl)) rfl rfl (fun w hx => gv_move rfl (hF.t rfl)) fun a hF => ?_
        refine dw_gv hF rfl (wanted_of hF rfl rfl (rfl)) rfl rfl (fun w hx => gv_sliceLo (lo := 16) rfl Try.underlying22 Try.sz5 (hF.t rfl) rfl (by omega)) fun a hF => ?_
        refine dw_gv hF rfl (wanted_of hF rfl rfl (rfl)) rfl rfl (fun w hx => gv_convStr rfl Try.underlying22 Try.underlying5 Try.underlying9 (hF.t rfl) (by have := (rd_own (pad := xp) (l := turned kl (ff16 B) 0 (zN (16 * (B + 3)))) (hS.ext hx) (List.mem_of_getElem? (i := 5) rfl) (nw_cons rfl (nw_cons rfl (nw_cons rfl (nw_cons rfl (nw_cons rfl (nw_cons rfl (nw_cons rfl (nw_cons rfl (nw_cons rfl (nw_cons rfl (nw_cons rfl (nw_cons rfl nw_nil)))))))))))) (fun h => by cases h) (tz_len _ _ _) xc).cutLo (lo := 16) (by omega); rwa [← List.map_drop] at this)) fun a hF => ?_
        refine dw_gv hF rfl (wanted_of hF rfl rfl (rfl)) rfl rfl (fun w hx => gv_move rfl (hF.t rfl)) fun a hF => ?_
        refine dw_gv hF rfl (wanted_of hF rfl rfl (rfl)) rfl rfl (fun w hx => gv_move rfl (hF.t rfl)) fun a hF => ?_
        refine dw_gv hF rfl (wanted_of hF rfl rfl (rfl)) rfl rfl (fun w hx => gv_len rfl Try.underlying22 (hF.t rfl)) fun a hF => ?_
        refine dw_gv hF rfl (wanted_of hF rfl rfl (rfl)) rfl rfl (fun w hx => gv_nsub (n := 16) rfl (hF.t rfl) rfl (by omega) (by omega)) fun a hF => ?_
        refine dw_gv hF rfl (wanted_of hF rfl rfl (rfl)) rfl rfl (fun w hx => gv_sliceHi (hi := 16 * (B + 3) - 16) rfl Try.underlying22 Try.sz5 (hF.t rfl) (hF.t rfl) (by omega)) fun a hF => ?_
        refine dw_gv hF rfl (wanted_of hF rfl rfl (rfl)) rfl rfl (fun w hx => gv_convStr rfl Try.underlying22 Try.underlying5 Try.underlying9 (hF.t rfl) (by have := (rd_own (pad := yp) (l := turned kl (incC (ff16 B)) 0 (zN (16 * (B + 3)))) (hS.ext hx) (List.mem_of_getElem? (i := 2) rfl) (nw_cons rfl (nw_cons rfl (nw_cons rfl (nw_cons rfl (nw_cons rfl (nw_cons rfl (nw_cons rfl (nw_cons rfl (nw_cons rfl (nw_cons rfl (nw_cons rfl (nw_cons rfl nw_nil)))))))))))) (fun h => by cases h) (tz_len _ _ _) yc).cutHi (hi := 16 * (B + 3) - 16) (by omega); rwa [← List.map_take] at this)) fun a hF => ?_
        refine dw_gv hF rfl (wanted_of hF rfl rfl (rfl)) rfl rfl (fun w hx => gv_strEqlT rfl (hF.t rfl) (hF.t rfl) (wraps1 kl (ff16 B) (by omega))) fun a hF => ?_
        refine dw_gv hF rfl (wanted_none rfl) rfl rfl (fun w hx => gv_pickT rfl (hF.t rfl) (hF.t rfl)) fun a hF => ?_
        refine dw_gv hF rfl (wanted_none rfl) rfl rfl (fun w hx => gv_move rfl (hF.t rfl)) fun a hF => ?_
        refine dw_gv hF rfl (wanted_of hF rfl rfl (rfl)) rfl rfl (fun w hx => gv_move rfl (hF.t rfl)) fun a hF => ?_
        refine dw_gv hF rfl (wanted_of hF rfl rfl (rfl)) rfl rfl (fun w hx => gv_sliceHi (hi := 16) rfl Try.underlying22 Try.sz5 (hF.t rfl) rfl (by omega)) fun a hF => ?_
        refine dw_gv hF rfl (wanted_of hF rfl rfl (rfl)) rfl rfl (fun w hx => gv_convStr rfl Try.underlying22 Try.underlying5 Try.underlying9 (hF.t rfl) (by have := (rd_own (pad := xp) (l := turned kl (ff16 B) 0 (zN (16 * (B + 3)))) (hS.ext hx) (List.mem_of_getElem? (i := 5) rfl) (nw_cons rfl (nw_cons rfl (nw_cons rfl (nw_cons rfl (nw_cons rfl (nw_cons rfl (nw_cons rfl (nw_cons rfl (nw_cons rfl (nw_cons rfl (nw_cons rfl (nw_cons rfl nw_nil)))))))))))) (fun h => by cases h) (tz_len _ _ _) xc).cutHi (hi := 16) (by omega); rwa [← List.map_take] at this)) fun a hF => ?_
        refine dw_gv hF rfl (wanted_of hF rfl rfl (rfl)) rfl rfl (fun w hx => gv_sliceArr rfl Try.underlying23 Try.sz5 (hF.t rfl)) fun a hF => ?_
        refine dw_gv hF rfl (wanted_of hF rfl rfl (rfl)) rfl rfl (fun w hx => gv_convStr rfl Try.underlying22 Try.underlying5 Try.underlying9 (hF.t rfl) (rd_blkB (l := blockF (keys kl) (ff16 B)) (hS.ext hx) (List.mem_of_getElem? (i := 1) rfl) (blockF_len (ff16_len B)) (by omega))) fun a hF => ?_
        refine dw_gv hF rfl (wanted_of hF rfl rfl (rfl)) rfl rfl (fun w hx => gv_strEqlT rfl (hF.t rfl) (hF.t rfl) ((wraps2 kl (ff16 B) (by omega)).trans (block_same (ff16_len B)).symm)) fun a hF => ?_
        refine dw_gv hF rfl (wanted_none rfl) rfl rfl (fun w hx => gv_pickT rfl (hF.t rfl) (hF.t rfl)) fun a hF => ?_
        refine dw_gv hF rfl (wanted_none rfl) rfl rfl (fun w hx => gv_move rfl (hF.t rfl)) fun a hF => ?_
        refine dw_gv hF rfl (wanted_of hF rfl rfl (rfl)) rfl rfl (fun w hx => gv_move rfl (hF.t rfl)) fun a hF => ?_
        refine dw_gv hF rfl (wanted_of hF rfl rfl (rfl)) rfl rfl (fun w hx => gv_move rfl (hF.t rfl)) fun a hF => ?_
        refine dw_gv hF rfl (wanted_of hF rfl rfl (rfl)) rfl rfl (fun w hx => gv_nadd (n := 2) rfl (hF.t rfl) rfl (by omega)) fun a hF => ?_
        refine dw_gv hF rfl (wanted_of hF rfl rfl (rfl)) rfl rfl (fun w hx => gv_nmul (m := 16) rfl rfl (hF.t rfl) (by omega)) fun a hF => ?_
        refine dw_gv hF rfl (wanted_of hF rfl rfl (rfl)) rfl rfl (fun w hx => gv_sliceLo (lo := 16 * (B + 2)) rfl Try.underlying22 Try.sz5 (hF.t rfl) (hF.t rfl) (by omega)) fun a hF => ?_
        refine dw_gv hF rfl (wanted_of hF rfl rfl (rfl)) rfl rfl (fun w hx => gv_convStr rfl Try.underlying22 Try.underlying5 Try.underlying9 (hF.t rfl) (by have := (rd_own (pad := xp) (l := turned kl (ff16 B) 0 (zN (16 * (B + 3)))) (hS.ext hx) (List.mem_of_getElem? (i := 5) rfl) (nw_cons rfl (nw_cons rfl (nw_cons rfl (nw_cons rfl (nw_cons rfl (nw_cons rfl (nw_cons rfl (nw_cons rfl (nw_cons rfl (nw_cons rfl (nw_cons rfl (nw_cons rfl nw_nil)))))))))))) (fun h => by cases h) (tz_len _ _ _) xc).cutLo (lo := 16 * (B + 2)) (by omega); rwa [← List.map_drop] at this)) fun a hF => ?_
        refine dw_gv hF rfl (wanted_of hF rfl rfl (rfl)) rfl rfl (fun w hx => gv_sliceArr rfl Try.underlying23 Try.sz5 (hF.t rfl)) fun a hF => ?_
        refine dw_gv hF rfl (wanted_of hF rfl rfl (rfl)) rfl rfl (fun w hx => gv_convStr rfl Try.underlying22 Try.underlying5 Try.underlying9 (hF.t rfl) (rd_blkB (l := blockF (keys kl) one16) (hS.ext hx) (List.mem_of_getElem? (i := 0) rfl) (blockF_len one16_len) (by omega))) fun a hF => ?_
        refine dw_gv hF rfl (wanted_of hF rfl rfl (rfl)) rfl rfl (fun w hx => gv_strEqlT rfl (hF.t rfl) (hF.t rfl) ((wraps3 kl (ff16 B) (B + 2)).trans (by rw [wrap_last B hB, block_same one16_len]))) fun a hF => ?_
        refine dw_gv hF rfl (wanted_none rfl) rfl rfl (fun w hx => gv_pickT rfl (hF.t rfl) (hF.t rfl)) fun a hF => ?_
        refine dw_gv hF rfl (wanted_none rfl) rfl rfl (fun w hx => gv_move rfl (hF.t rfl)) fun a hF => ?_
        refine dw_gv hF rfl (wanted_of hF rfl rfl (rfl)) rfl rfl (fun w hx => gv_move rfl (hF.t rfl)) fun a hF => ?_
        refine dw_gv hF rfl (wanted_of hF rfl rfl (rfl)) rfl rfl (fun w hx => gv_loadAll rfl Try.underlying23 rfl (Try.sz23.trans (congrArg some (by simp [hb]))) (hF.t rfl) (hS.ext hx) (k := 11) rfl) fun a hF => ?_
        refine dw_call hF rfl (wanted_of hF rfl rfl (rfl)) rfl rfl Try.ok10 rfl (Evs.cons (hF.t rfl) (Evs.cons (hF.t rfl) Evs.nil)) (fun w hx => block_ok ((hS.ext hx).has _ (List.mem_of_getElem? (i := 6) rfl) _ rfl) (keys_len kl) hb) fun a hF => ?_
        refine dw_gv hF rfl (wanted_of hF rfl rfl (rfl)) rfl rfl (fun w hx => gv_move rfl (hF.t rfl)) fun a hF => ?_
        refine dw_gv hF rfl (wanted_of hF rfl rfl (rfl)) rfl rfl (fun w hx => gv_loadAll rfl Try.underlying23 rfl (Try.sz23.trans (congrArg some (by simp [hb]))) (hF.t rfl) (hS.ext hx) (k := 11) rfl) fun a hF => ?_
        refine dw_call hF rfl (wanted_of hF rfl rfl (rfl)) rfl rfl Try.ok10 rfl (Evs.cons (hF.t rfl) (Evs.cons (hF.t rfl) Evs.nil)) (fun w hx => block_ok ((hS.ext hx).has _ (List.mem_of_getElem? (i := 3) rfl) _ rfl) (keys_len kl) hb) fun a hF => ?_
        refine dw_gv hF rfl (wanted_of hF rfl rfl (rfl)) rfl rfl (fun w hx => gv_aggEqlT rfl Try.underlying23 Try.underlying5 Try.sz5 Try.eqg23 (hF.t rfl) (hF.t rfl) (blockF_len hb) (blockF_len hb) (rfl)) fun a hF => ?_
        refine dw_gv hF rfl (wanted_none rfl) rfl rfl (fun w hx => gv_pickT rfl (hF.t rfl) (hF.t rfl)) fun a hF => ?_
        refine dw_gv hF rfl (wanted_none rfl) rfl rfl (fun w hx => gv_assign rfl (hF.t rfl)) fun a hF => ?_
        refine dw_nil fun a w hA hx => ?_
        replace hF := hA _ hF
        replace hS := hS.ext hx
        clear hA hx
        refine run_done (by decide) ?_
        refine then_normal (hKq29 _ _ ?_)
        refine wp_ret ?_
        refine ret1 (fn := Try.f7) (t := 6) hF rfl rfl ?_
        exact ⟨rfl, hS.toExt (nw_cons rfl (nw_cons rfl (nw_cons rfl (nw_cons rfl (nw_cons rfl (nw_cons rfl (nw_cons rfl (nw_cons rfl (nw_cons rfl (nw_cons rfl (nw_cons rfl (nw_cons rfl nw_nil))))))))))))⟩


end Go.Proofs.Ytfhalnobaeogkaa

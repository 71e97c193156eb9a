/- What is proved: the contracts of Turn and Bytes of the reference of layer 6. -/
import Derived.Test.YtfhalnobaeogkaaProg
import Derived.Test.YtfhalnobaeogkaaFwSep
import Derived.KernelRfl
import Derived.Test.YtfhalnobaeogkaaFwStr
import Derived.Test.YtfhalnobaeogkaaLeaf
import Derived.Test.YtfhalnobaeogkaaCip
import Derived.Test.YtfhalnobaeogkaaRef
import Derived.Test.YtfhalnobaeogkaaRef2
import Derived.Test.YtfhalnobaeogkaaRefB
set_option linter.unusedVariables false
set_option linter.unusedSimpArgs false
namespace Go.Proofs.Ytfhalnobaeogkaa
open Go Go.RowKit Go.Fw

theorem Try.ok12 : CallOk Try.prog 12 := ⟨_, Try.func12, by kernel_rfl, by kernel_rfl⟩


/-- A block of the document. -/
def rblk (kl bl : List UInt8) : List UInt8 := o16 (rS (wks kl) bl 10) 16
theorem rblk_len (kl bl : List UInt8) : (rblk kl bl).length = 16 := o16_len _ _
def cI (cl : List UInt8) : Nat → List UInt8
  | 0 => cl
  | m + 1 => incC (cI cl m)
theorem cI_len {cl : List UInt8} (h : cl.length = 16) (m : Nat) : (cI cl m).length = 16 := by induction m with
  | zero => exact h
  | succ m ih => rw [cI, incC_len, ih]
theorem cI_succ (cl : List UInt8) (m : Nat) : cI cl (m + 1) = incC (cI cl m) := rfl
def bB (kl cl : List UInt8) : Nat → List UInt8
  | 0 => []
  | m + 1 => bB kl cl m ++ rblk kl (cI cl m)
theorem bB_len (kl cl : List UInt8) (m : Nat) : (bB kl cl m).length = 16 * m := by induction m with
  | zero => rfl
  | succ m ih => rw [bB, List.length_append, ih, rblk_len]; omega
theorem bB_app (kl cl : List UInt8) (m : Nat) : (bB kl cl m).map vB ++ (rblk kl (cI cl m)).map vB = (bB kl cl (m + 1)).map vB := by rw [bB, List.map_append]
/-- The first n bytes of a stream of the document. -/
def byts (kl cl : List UInt8) (n : Nat) : List UInt8 := (bB kl cl ((n + 15) / 16)).take n
theorem byts_len (kl cl : List UInt8) (n : Nat) : (byts kl cl n).length = n := by rw [byts, List.length_take, bB_len]; omega
def xr (al bl : List UInt8) (k : Nat) : List UInt8 := (List.range k).map fun i => al.getD i 0 ^^^ bl.getD i 0
theorem xr_len (al bl : List UInt8) (k : Nat) : (xr al bl k).length = k := by simp [xr]
theorem xr_app (al bl : List UInt8) (k : Nat) : (xr al bl k).map vB ++ [vB (al.getD k 0 ^^^ bl.getD k 0)] = (xr al bl (k + 1)).map vB := by
  rw [xr, xr, List.range_succ, List.map_append, List.map_append]; rfl
theorem rblock_any {kv : Value} {kl bl : List UInt8} {w0 : World} (hkv : Rd w0 kv (kl.map vB)) (hk : kl.length = 16) (hb : bl.length = 16) :
    Calls Try.prog 12 #[kv, .agg (bl.map vB).toArray] w0 fun e w' => e = .returned (.agg ((rblk kl bl).map vB).toArray) ∧ Ext w0 w' := rblock_ok hkv hk hb


theorem rturn_ok {av bv : Value} {al bl : List UInt8} {w0 : World} (hav : Rd w0 av (al.map vB)) (hbv : Rd w0 bv (bl.map vB)) (hl : al.length ≤ bl.length) (hn : al.length ≤ 1099511627776) :
    Calls Try.prog 13 #[av, bv] w0 (RetRd w0 (xr al bl al.length)) := by
  obtain ⟨Aa, ca, rfl, ha1, ha2, hac⟩ := hav.isB
  obtain ⟨Ab, cb, rfl, hb1, hb2, hbc⟩ := hbv.isB
  refine calls_start 26 Try.func13 rfl Try.ntmps13 rfl fun a hF => ?_
  have hS := St.refl w0
  replace hS := hS.addNil (blk 5 ([] ++ []))
  refine wp_seq_k fun Kq1 hKq1 => ?_
  -- region 0 (ref.go:106)
  refine wp_region_lit ?_
  refine wpList_stp (stp_gv hF (wanted_none rfl) rfl rfl (gv_assign rfl (ev_const _ _)) fun a hF => ?_)
  refine wpList_nil ?_
  refine then_normal (hKq1 _ _ ?_)
  refine wp_seq_k fun Kq2 hKq2 => ?_
  -- region 1 (ref.go:107)
  refine wp_region_lit ?_
  refine wpList_stp (stp_gv hF (wanted_none rfl) rfl rfl (gv_assign rfl (ev_const _ _)) fun a hF => ?_)
  refine wpList_nil ?_
  refine then_normal (hKq2 _ _ ?_)
  refine wp_seq_k fun Kq3 hKq3 => ?_
  refine wp_seq_k fun Kq4 hKq4 => ?_
  -- region 2 (ref.go:108)
  refine wp_region_lit ?_
  refine wpList_stp (stp_gv hF (wanted_none rfl) rfl rfl (gv_assign rfl (ev_const _ _)) fun a hF => ?_)
  refine wpList_nil ?_
  refine then_normal (hKq4 _ _ ?_)
  refine wp_block ?_
  refine wp_loop_n (fun n a w => ∃ k ob pad, k ≤ al.length ∧ n = al.length - k ∧ (ob = none → k = 0 ∧ pad = []) ∧ k + pad.length ≤ 9223372036854775807 ∧ Fr 26 a [(0, .slice Aa al.length ca), (1, .slice Ab bl.length cb), (5, ownV ob k (k + pad.length)), (6, vI k)] ∧ St w0 w [⟨true, ob, blk 5 ((xr al bl k).map vB ++ pad)⟩]) al.length ⟨0, none, [], by omega, by omega, fun _ => ⟨rfl, rfl⟩, by simp, hF.sub ⟨rfl, rfl, rfl, rfl, trivial⟩, hS⟩ ?_
  rintro n a w ⟨k, ob, pad, hk, hn, hob, hcap, hF, hS⟩
  refine wp_seq_k fun Kq5 hKq5 => ?_
  refine wp_seq_k fun Kq6 hKq6 => ?_
  -- region 3 (ref.go:108)
  refine wp_region_lit ?_
  refine wpList_stp (stp_gv hF (wanted_none rfl) rfl rfl (gv_move rfl (hF.t rfl)) fun a hF => ?_)
  refine wpList_stp (stp_gv hF (wanted_none rfl) rfl rfl (gv_move rfl (hF.t rfl)) fun a hF => ?_)
  refine wpList_stp (stp_gv hF (wanted_none rfl) rfl rfl (gv_len rfl Try.underlying22 (hF.t rfl)) fun a hF => ?_)
  refine wpList_stp (stp_gv hF (wanted_none rfl) rfl rfl (gv_lss rfl (hF.t rfl) (hF.t rfl)) fun a hF => ?_)
  refine wpList_nil ?_
  refine then_normal (hKq6 _ _ ?_)
  refine cond_dec (hF.t rfl) (fun h10 => ?_) (fun h10 => ?_)
  ·
    obtain ⟨ba, oa, rfl, hac⟩ := hac (by omega)
    obtain ⟨bb, oB, rfl, hbc⟩ := hbc (by omega)
    refine wp_skip ?_
    refine then_normal (hKq5 _ _ ?_)
    refine wp_seq_k fun Kq7 hKq7 => ?_
    refine wp_block ?_
    -- region 5 (ref.go:109)
    refine Fw.wp_region_draw (by kernel_rfl) fun w hx => ?_
    replace hS := hS.ext hx
    clear hx
    refine run_head1 (n := 11) _ 10 23 _ (FlS w 5 1 [vB (al.getD k 0 ^^^ bl.getD k 0)]) hF (by kernel_rfl) rfl rfl rfl (FlS.lasts w 5 1 [vB (al.getD k 0 ^^^ bl.getD k 0)]) ?_ (by omega) (by omega)
    refine dw_gv hF rfl (wanted_none rfl) rfl rfl (fun w hx => gv_move rfl (hF.t rfl)) fun a hF => ?_
    refine dw_gv hF rfl (wanted_none rfl) rfl rfl (fun w hx => gv_move rfl (hF.t rfl)) fun a hF => ?_
    refine dw_gv hF rfl (wanted_none rfl) rfl rfl (fun w hx => gv_move rfl (hF.t rfl)) fun a hF => ?_
    refine dw_gv hF rfl (wanted_none rfl) rfl rfl (fun w hx => gv_indexSl rfl Try.underlying22 Try.sz5 (hF.t rfl) (hF.t rfl) (by omega)) fun a hF => ?_
    refine dw_gv hF rfl (wanted_none rfl) rfl rfl (fun w hx => gv_load rfl Try.underlying5 rfl (hF.t rfl) (cell_ix ((hav.ext (((hS.ext hx)).toExt (nw_cons rfl nw_nil))).cellB k (by omega)) (by omega))) fun a hF => ?_
    refine dw_gv hF rfl (wanted_none rfl) rfl rfl (fun w hx => gv_move rfl (hF.t rfl)) fun a hF => ?_
    refine dw_gv hF rfl (wanted_none rfl) rfl rfl (fun w hx => gv_move rfl (hF.t rfl)) fun a hF => ?_
    refine dw_gv hF rfl (wanted_none rfl) rfl rfl (fun w hx => gv_indexSl rfl Try.underlying22 Try.sz5 (hF.t rfl) (hF.t rfl) (by omega)) fun a hF => ?_
    refine dw_gv hF rfl (wanted_none rfl) rfl rfl (fun w hx => gv_load rfl Try.underlying5 rfl (hF.t rfl) (cell_ix ((hbv.ext (((hS.ext hx)).toExt (nw_cons rfl nw_nil))).cellB k (by omega)) (by omega))) fun a hF => ?_
    refine dw_gv hF rfl (wanted_none rfl) rfl rfl (fun w hx => gv_b_xor rfl (hF.t rfl) (hF.t rfl)) fun a hF => ?_
    refine dw_fl rfl ?_
    refine dw_nil ⟨fo_build1 rfl Try.underlying22 Try.ty5 (hF.t rfl), fun a w v hR hA hx => ?_⟩
    obtain ⟨one, rfl, hR1, hR2⟩ := hR
    replace hF := hA _ hF
    replace hS := hS.float hx hR1 hR2
    clear hA hx hR1 hR2
    have hR : Rd w (.slice (some ⟨one, 0, none⟩) 1 1) [vB (al.getD k 0 ^^^ bl.getD k 0)] := hS.rdOf (k := 0) rfl 0 1 1 (by simp) (by omega) (by omega)
    refine run_stp (by kernel_rfl) rfl (stp_append (ob := ob) (xs := (xr al bl k).map vB) (pad := pad) (k := 1) hF (wanted_none rfl) rfl rfl rfl Try.underlying22 Try.ty5 rfl (by rw [List.length_map, xr_len]; exact hF.t rfl) (hF.t rfl) hS rfl (fun h => ⟨by rw [(hob h).1]; rfl, (hob h).2⟩) (by rw [List.length_map, xr_len]; exact hcap) hR (one_B [_]) (by simp [xr_len]; omega) (by simp [xr_len]; omega) fun ob pad a w hF hob hcap hS => ?_)
    simp only [List.length_map, xr_len, List.length_cons, List.length_nil, Nat.zero_add, xr_app, List.map_eq_nil_iff] at hF hS hob hcap
    refine run_stp (by kernel_rfl) rfl (stp_gv hF (wanted_none rfl) rfl rfl (gv_assign rfl (hF.t rfl)) fun a hF => ?_)
    refine run_done (by decide) ?_
    refine block_normal ?_
    refine then_normal (hKq7 _ _ ?_)
    -- region 4 (ref.go:108)
    refine wp_region_lit ?_
    refine wpList_stp (stp_gv hF (wanted_none rfl) rfl rfl (gv_move rfl (hF.t rfl)) fun a hF => ?_)
    refine wpList_stp (stp_gv hF (wanted_none rfl) rfl rfl (gv_nadd (n := 1) rfl (hF.t rfl) rfl (by omega)) fun a hF => ?_)
    refine wpList_stp (stp_gv hF (wanted_none rfl) rfl rfl (gv_assign rfl (hF.t rfl)) fun a hF => ?_)
    refine wpList_nil ?_
    refine then_normal ?_
    exact ⟨n - 1, by omega, k + 1, ob, pad, by omega, by omega, fun h => absurd (congrArg List.length (hob h).1) (by simp [xr_len]), hcap, hF.sub ⟨rfl, rfl, rfl, rfl, trivial⟩, hS.drop rfl⟩
  ·
    refine wp_exit ?_
    refine then_exit ?_
    refine then_exit ?_
    refine block_exit ?_
    refine then_normal (hKq3 _ _ ?_)
    refine wp_seq_k fun Kq8 hKq8 => ?_
    -- region 6 (ref.go:111)
    refine wp_region_lit ?_
    refine wpList_stp (stp_gv hF (wanted_none rfl) rfl rfl (gv_move rfl (hF.t rfl)) fun a hF => ?_)
    refine wpList_stp (stp_gv hF (wanted_none rfl) rfl rfl (gv_assign rfl (hF.t rfl)) fun a hF => ?_)
    refine wpList_nil ?_
    refine then_normal (hKq8 _ _ ?_)
    refine wp_ret ?_
    refine ret1 (fn := Try.f13) (t := 4) hF rfl rfl ?_
    obtain rfl : k = al.length := by omega
    exact ⟨_, rfl, rd_own hS List.mem_cons_self (nw_cons rfl nw_nil) (fun h => ⟨List.length_eq_zero_iff.1 (by rw [xr_len, (hob h).1]), (hob h).2⟩) (xr_len _ _ _) hcap, hS.toExt (nw_cons rfl nw_nil)⟩

set_option maxHeartbeats 1000000 in
theorem rbytes_ok {kv cv : Value} {kl cl : List UInt8} {n : Nat} {w0 : World} (hkv : Rd w0 kv (kl.map vB)) (hcv : Rd w0 cv (cl.map vB)) (hk : kl.length = 16) (hc : cl.length = 16) (hn : n ≤ 1099511627776) :
    Calls Try.prog 14 #[kv, cv, vI n] w0 (RetRd w0 (byts kl cl n)) := by
  obtain ⟨Ak, ck, rfl, hk1, hk2, hkc⟩ := hkv.isB
  obtain ⟨Ac, cc, rfl, hc1, hc2, hcc⟩ := hcv.isB
  obtain ⟨bk, ok, rfl, hkc⟩ := hkc (by omega)
  obtain ⟨bc, oc, rfl, hcc⟩ := hcc (by omega)
  rw [hk] at hkv hk1 hkc ⊢
  rw [hc] at hcv hc1 hcc ⊢
  refine calls_start 40 Try.func14 rfl Try.ntmps14 rfl fun a hF => ?_
  have hS := St.refl w0
  refine wp_seq_k fun Kq1 hKq1 => ?_
  -- region 0 (ref.go:89)
  refine wp_region_lit ?_
  refine wpList_stp (stp_gv hF (wanted_none rfl) rfl rfl (gv_assign rfl (ev_const _ _)) fun a hF => ?_)
  refine wpList_nil ?_
  refine then_normal (hKq1 _ _ ?_)
  refine wp_seq_k fun Kq2 hKq2 => ?_
  -- region 1 (ref.go:90)
  refine wp_region_lit ?_
  refine wpList_stp (stp_gv hF (wanted_none rfl) rfl rfl (gv_move rfl (hF.t rfl)) fun a hF => ?_)
  refine wpList_stp (stp_gv hF (wanted_none rfl) rfl rfl (gv_toArr rfl Try.underlying23 (hF.t rfl) (by omega)) fun a hF => ?_)
  refine wpList_stp (stp_gv hF (wanted_none rfl) rfl rfl (gv_loadAgg (vs := cl.map vB) rfl Try.underlying23 rfl (Try.sz23.trans (congrArg some (by simp [hc]))) (hF.t rfl) (fun j u hu => (hcv.ext (hS.toExt nw_nil)).rdcell hu)) fun a hF => ?_)
  refine wpList_stp (stp_alloc hF (wanted_none rfl) rfl rfl rfl Try.zv23 rfl hS fun c a w hF hS => ?_)
  refine wpList_stp (stp_storeAll hF (wanted_none rfl) rfl rfl (Try.sz23.trans (congrArg some (by simp [hc]))) (hF.t rfl) (hF.t rfl) (one_B _) hS (k := 0) rfl (by simp [hc]) fun w hS => ?_)
  refine wpList_nil ?_
  refine then_normal (hKq2 _ _ ?_)
  refine wp_seq_k fun Kq3 hKq3 => ?_
  -- region 2 (ref.go:91)
  refine wp_region_lit ?_
  refine wpList_stp (stp_gv hF (wanted_none rfl) rfl rfl (gv_assign rfl (ev_const _ _)) fun a hF => ?_)
  refine wpList_nil ?_
  refine then_normal (hKq3 _ _ ?_)
  refine wp_seq_k fun Kq4 hKq4 => ?_
  refine wp_block ?_
  replace hS := hS.addNil (blk 5 ([] ++ []))
  refine wp_loop_n (fun q a w => ∃ m ob pad, m ≤ (n + 15) / 16 ∧ q = (n + 15) / 16 - m ∧ (ob = none → m = 0 ∧ pad = []) ∧ 16 * m + pad.length ≤ 9223372036854775807 ∧ Fr 40 a [(0, .slice (some ⟨bk, ok, none⟩) 16 ck), (2, vI n), (7, .pointer (some ⟨c, 0, none⟩)), (8, ownV ob (16 * m) (16 * m + pad.length))] ∧ St w0 w [⟨true, ob, blk 5 ((bB kl cl m).map vB ++ pad)⟩, ⟨true, some c, blkB 23 (cI cl m)⟩]) ((n + 15) / 16) ⟨0, none, [], by omega, by omega, fun _ => ⟨rfl, rfl⟩, by simp, hF.sub ⟨rfl, rfl, rfl, rfl, trivial⟩, hS⟩ ?_
  rintro q a w ⟨m, ob, pad, hm, hq, hob, hcap, hF, hS⟩
  refine wp_seq_k fun Kq5 hKq5 => ?_
  refine wp_seq_k fun Kq6 hKq6 => ?_
  -- region 3 (ref.go:92)
  refine wp_region_lit ?_
  refine wpList_stp (stp_gv hF (wanted_none rfl) rfl rfl (gv_move rfl (hF.t rfl)) fun a hF => ?_)
  refine wpList_stp (stp_gv hF (wanted_none rfl) rfl rfl (gv_lenOwn rfl Try.underlying22 (hF.t rfl) (fun h => by rw [(hob h).1])) fun a hF => ?_)
  refine wpList_stp (stp_gv hF (wanted_none rfl) rfl rfl (gv_move rfl (hF.t rfl)) fun a hF => ?_)
  refine wpList_stp (stp_gv hF (wanted_none rfl) rfl rfl (gv_lss rfl (hF.t rfl) (hF.t rfl)) fun a hF => ?_)
  refine wpList_nil ?_
  refine then_normal (hKq6 _ _ ?_)
  refine cond_dec (hF.t rfl) (fun h17 => ?_) (fun h17 => ?_)
  ·
    refine wp_skip ?_
    refine then_normal (hKq5 _ _ ?_)
    refine wp_block ?_
    refine wp_seq_k fun Kq7 hKq7 => ?_
    -- region 4 (ref.go:93)
    refine wp_region_lit ?_
    refine wpList_stp (stp_gv hF (wanted_none rfl) rfl rfl (gv_move rfl (hF.t rfl)) fun a hF => ?_)
    refine wpList_stp (stp_gv hF (wanted_none rfl) rfl rfl (gv_loadAll rfl Try.underlying23 rfl (Try.sz23.trans (congrArg some (by simp [cI_len hc]))) (hF.t rfl) hS (k := 1) rfl) fun a hF => ?_)
    refine wpList_stp (stp_call hF (wanted_none rfl) rfl rfl Try.ok12 rfl (Evs.cons (hF.t rfl) (Evs.cons (hF.t rfl) Evs.nil)) (rblock_any (hkv.ext (hS.toExt (nw_cons rfl (nw_cons rfl nw_nil)))) hk (cI_len hc m)) fun e w h => ?_)
    obtain ⟨rfl, hx⟩ := h
    refine ⟨_, rfl, fun a hF => ?_⟩
    replace hS := hS.ext hx
    clear hx
    refine wpList_stp (stp_alloc hF (wanted_none rfl) rfl rfl rfl Try.zv23 rfl hS fun bb a w hF hS => ?_)
    refine wpList_stp (stp_storeAll hF (wanted_none rfl) rfl rfl (Try.sz23.trans (congrArg some (by simp [rblk_len]))) (hF.t rfl) (hF.t rfl) (one_B _) hS (k := 0) rfl (by simp [rblk_len]) fun w hS => ?_)
    refine wpList_nil ?_
    refine then_normal (hKq7 _ _ ?_)
    refine wp_seq_k fun Kq8 hKq8 => ?_
    -- region 5 (ref.go:94)
    refine wp_region_lit ?_
    refine wpList_stp (stp_gv hF (wanted_none rfl) rfl rfl (gv_move rfl (hF.t rfl)) fun a hF => ?_)
    refine wpList_stp (stp_gv hF (wanted_none rfl) rfl rfl (gv_sliceArr rfl Try.underlying23 Try.sz5 (hF.t rfl)) fun a hF => ?_)
    have hR : Rd w (.slice (some ⟨bb, 0, none⟩) 16 16) ((rblk kl (cI cl m)).map vB) := rd_blkB hS List.mem_cons_self (rblk_len _ _) (by omega)
    refine wpList_stp (stp_append (ob := ob) (xs := (bB kl cl m).map vB) (pad := pad) (k := 1) hF (wanted_none rfl) rfl rfl rfl Try.underlying22 Try.ty5 rfl (by rw [List.length_map, bB_len]; exact hF.t rfl) (hF.t rfl) hS rfl (fun h => ⟨List.length_eq_zero_iff.1 (by rw [List.length_map, bB_len, (hob h).1]), (hob h).2⟩) (by rw [List.length_map, bB_len]; exact hcap) hR (one_B _) (by simp [bB_len, rblk_len]; omega) (by simp [bB_len, rblk_len]; omega) fun ob pad a w hF hob hcap hS => ?_)
    simp only [List.length_map, bB_len, rblk_len, bB_app, List.map_eq_nil_iff, show 16 * m + 16 = 16 * (m + 1) from rfl] at hF hS hob hcap
    refine wpList_stp (stp_gv hF (wanted_none rfl) rfl rfl (gv_assign rfl (hF.t rfl)) fun a hF => ?_)
    refine wpList_nil ?_
    refine then_normal (hKq8 _ _ ?_)
    refine wp_seq_k fun Kq9 hKq9 => ?_
    -- region 6 (ref.go:95)
    refine wp_region_lit ?_
    refine wpList_stp (stp_gv hF (wanted_none rfl) rfl rfl (gv_assign rfl (ev_const _ _)) fun a hF => ?_)
    refine wpList_nil ?_
    refine then_normal (hKq9 _ _ ?_)
    refine wp_block ?_
    refine wp_loop_n (fun p a w => ∃ j D, j ≤ 16 ∧ p = j ∧ D.length = 16 ∧ incl D j = incC (cI cl m) ∧ Fr 40 a [(0, .slice (some ⟨bk, ok, none⟩) 16 ck), (2, vI n), (7, .pointer (some ⟨c, 0, none⟩)), (8, ownV ob (16 * (m + 1)) (16 * (m + 1) + pad.length)), (10, ctr j)] ∧ St w0 w [⟨true, ob, blk 5 ((bB kl cl (m + 1)).map vB ++ pad)⟩, ⟨true, some c, blkB 23 D⟩]) 16 ⟨16, cI cl m, by omega, rfl, cI_len hc m, rfl, hF.sub ⟨rfl, rfl, rfl, rfl, rfl, trivial⟩, hS.drop rfl⟩ ?_
    rintro p a w ⟨j, D, hj, hp, hCj, hinc, hF, hS⟩
    refine wp_seq_k fun Kq10 hKq10 => ?_
    refine wp_seq_k fun Kq11 hKq11 => ?_
    -- region 7 (ref.go:95)
    refine wp_region_lit ?_
    refine wpList_stp (stp_gv hF (wanted_none rfl) rfl rfl (gv_move rfl (hF.t rfl)) fun a hF => ?_)
    refine wpList_stp (stp_gv hF (wanted_none rfl) rfl rfl (gv_geq rfl (hF.t rfl) (ev_const _ _)) fun a hF => ?_)
    refine wpList_nil ?_
    refine then_normal (hKq11 _ _ ?_)
    refine cond_dec (hF.t rfl) (fun h25 => ?_) (fun h25 => ?_)
    ·
      obtain ⟨j, rfl⟩ : ∃ i, j = i + 1 := ⟨j - 1, by unfold ctr at *; omega⟩
      replace hF : Fr 40 a [(0, .slice (some ⟨bk, ok, none⟩) 16 ck), (2, vI n), (7, .pointer (some ⟨c, 0, none⟩)), (8, ownV ob (16 * (m + 1)) (16 * (m + 1) + pad.length)), (10, vI j)] := hF.sub ⟨rfl, rfl, rfl, rfl, congrArg some (ctr_succ j), trivial⟩
      refine wp_skip ?_
      refine then_normal (hKq10 _ _ ?_)
      refine wp_seq_k fun Kq12 hKq12 => ?_
      refine wp_block ?_
      refine wp_seq_k fun Kq13 hKq13 => ?_
      -- region 9 (ref.go:96)
      refine wp_region_lit ?_
      refine wpList_stp (stp_gv hF (wanted_none rfl) rfl rfl (gv_move rfl (hF.t rfl)) fun a hF => ?_)
      refine wpList_stp (stp_gv hF (wanted_none rfl) rfl rfl (gv_indexArr rfl Try.underlying23 Try.sz5 (hF.t rfl) (hF.t rfl) (by omega)) fun a hF => ?_)
      refine wpList_stp (stp_gv hF (wanted_none rfl) rfl rfl (gv_load rfl Try.underlying5 rfl (hF.t rfl) (cell_ix (hS.cellB (k := 1) rfl (j) (by omega)) (by omega))) fun a hF => ?_)
      refine wpList_stp (stp_gv hF (wanted_none rfl) rfl rfl (gv_b_add (n := 1) rfl (hF.t rfl) rfl) fun a hF => ?_)
      refine wpList_stp (stp_gv hF (wanted_none rfl) rfl rfl (gv_indexArr rfl Try.underlying23 Try.sz5 (hF.t rfl) (hF.t rfl) (by omega)) fun a hF => ?_)
      refine wpList_stp (stp_storeB (j) hF (wanted_none rfl) rfl rfl Try.sz5 (hF.t rfl) (by omega) (hF.t rfl) hS (k := 1) rfl (by omega) fun w hS => ?_)
      refine wpList_nil ?_
      refine then_normal (hKq13 _ _ ?_)
      refine wp_seq_k fun Kq14 hKq14 => ?_
      -- region 10 (ref.go:97)
      refine wp_region_lit ?_
      refine wpList_stp (stp_gv hF (wanted_none rfl) rfl rfl (gv_move rfl (hF.t rfl)) fun a hF => ?_)
      refine wpList_stp (stp_gv hF (wanted_none rfl) rfl rfl (gv_indexArr rfl Try.underlying23 Try.sz5 (hF.t rfl) (hF.t rfl) (by omega)) fun a hF => ?_)
      refine wpList_stp (stp_gv hF (wanted_none rfl) rfl rfl (gv_load rfl Try.underlying5 rfl (hF.t rfl) (cell_ix (hS.cellB (k := 1) rfl (j) (by rw [List.length_set]; omega)) (by omega))) fun a hF => ?_)
      refine wpList_stp (stp_gv hF (wanted_none rfl) rfl rfl (gv_neq rfl (hF.t rfl) (ev_const _ _)) fun a hF => ?_)
      refine wpList_nil ?_
      refine then_normal (hKq14 _ _ ?_)
      refine cond_dec (hF.t rfl) (fun h36 => ?_) (fun h36 => ?_)
      ·
        refine wp_exit ?_
        refine block_exit_ne (by decide) ?_
        refine then_exit ?_
        refine then_exit ?_
        refine block_exit ?_
        refine block_normal ?_
        refine then_normal ?_
        rw [set_getD (by omega)] at h36
        exact ⟨q - 1, by omega, m + 1, ob, pad, by omega, by omega, fun h => absurd (congrArg List.length (hob h).1) (by simp [bB_len]), hcap, hF.sub ⟨rfl, rfl, rfl, rfl, trivial⟩, by rw [cI_succ, ← hinc, incl, if_pos (ne0 h36)]; exact hS⟩
      ·
        refine wp_skip ?_
        refine block_normal ?_
        refine then_normal (hKq12 _ _ ?_)
        -- region 8 (ref.go:95)
        refine wp_region_lit ?_
        refine wpList_stp (stp_gv hF (wanted_none rfl) rfl rfl (gv_move rfl (hF.t rfl)) fun a hF => ?_)
        refine wpList_stp (stp_gv hF (wanted_none rfl) rfl rfl (gv_sub rfl (hF.t rfl) (ev_const _ _) (by omega) (by omega)) fun a hF => ?_)
        refine wpList_stp (stp_gv hF (wanted_none rfl) rfl rfl (gv_assign rfl (hF.t rfl)) fun a hF => ?_)
        refine wpList_nil ?_
        refine then_normal ?_
        rw [set_getD (by omega)] at h36
        have hz : D.getD j 0 + 1 = 0 := eq0 h36
        exact ⟨p - 1, by omega, j, D.set j (D.getD j 0 + 1), by omega, by omega, by rw [List.length_set, hCj], by rw [← hinc, incl, if_neg (fun h => h hz)], hF.sub ⟨rfl, rfl, rfl, rfl, rfl, trivial⟩, hS⟩
    ·
      refine wp_exit ?_
      refine then_exit ?_
      refine then_exit ?_
      refine block_exit ?_
      refine block_normal ?_
      refine then_normal ?_
      obtain rfl : j = 0 := by unfold ctr at *; omega
      exact ⟨q - 1, by omega, m + 1, ob, pad, by omega, by omega, fun h => absurd (congrArg List.length (hob h).1) (by simp [bB_len]), hcap, hF.sub ⟨rfl, rfl, rfl, rfl, trivial⟩, by rw [cI_succ, ← hinc]; exact hS⟩
  ·
    refine wp_exit ?_
    refine then_exit ?_
    refine then_exit ?_
    refine block_exit ?_
    refine then_normal (hKq4 _ _ ?_)
    refine wp_seq_k fun Kq15 hKq15 => ?_
    -- region 11 (ref.go:102)
    refine wp_region_lit ?_
    refine wpList_stp (stp_gv hF (wanted_none rfl) rfl rfl (gv_move rfl (hF.t rfl)) fun a hF => ?_)
    refine wpList_stp (stp_gv hF (wanted_none rfl) rfl rfl (gv_move rfl (hF.t rfl)) fun a hF => ?_)
    refine wpList_stp (stp_gv hF (wanted_none rfl) rfl rfl (gv_sliceHiOwn rfl Try.underlying22 Try.sz5 (hF.t rfl) (fun h => by rw [(hob h).1, (hob h).2]; exact ⟨rfl, rfl⟩) (hF.t rfl) (by omega)) fun a hF => ?_)
    refine wpList_stp (stp_gv hF (wanted_none rfl) rfl rfl (gv_assign rfl (hF.t rfl)) fun a hF => ?_)
    refine wpList_nil ?_
    refine then_normal (hKq15 _ _ ?_)
    refine wp_ret ?_
    refine ret1 (fn := Try.f14) (t := 6) hF rfl rfl ?_
    obtain rfl : m = (n + 15) / 16 := by omega
    exact ⟨_, rfl, rd_own_take hS List.mem_cons_self (nw_cons rfl (nw_cons rfl nw_nil)) (fun h => ⟨List.length_eq_zero_iff.1 (by rw [bB_len, (hob h).1]), (hob h).2⟩) (bB_len _ _ _) hcap (by omega), hS.toExt (nw_cons rfl (nw_cons rfl nw_nil))⟩


end Go.Proofs.Ytfhalnobaeogkaa

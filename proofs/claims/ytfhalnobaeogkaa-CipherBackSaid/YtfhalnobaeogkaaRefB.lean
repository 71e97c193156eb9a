/- What is proved: the contract of the Block of the reference of layer 6. -/
import Derived.Test.YtfhalnobaeogkaaProg
import Derived.Test.YtfhalnobaeogkaaFwSep
import Derived.KernelRfl
import Derived.Test.YtfhalnobaeogkaaFwRef
import Derived.Test.YtfhalnobaeogkaaLeaf
import Derived.Test.YtfhalnobaeogkaaCip
import Derived.Test.YtfhalnobaeogkaaRef
import Derived.Test.YtfhalnobaeogkaaRef2
set_option linter.unusedVariables false
set_option linter.unusedSimpArgs false
namespace Go.Proofs.Ytfhalnobaeogkaa
open Go Go.RowKit Go.Fw

theorem Try.sz51 : (Try.prog.info? 51).map (·.size) = some 4 := by kernel_rfl
theorem Try.sz54 : (Try.prog.info? 54).map (·.size) = some 16 := by kernel_rfl
theorem Try.zv52 : (Try.prog.info? 52).map (·.zero) = some (some (Value.agg ((List.replicate 176 (0 : Nat)).map vI).toArray)) := by kernel_rfl
theorem Try.zv54 : (Try.prog.info? 54).map (·.zero) = some (some (Value.agg ((List.replicate 16 (0 : Nat)).map vI).toArray)) := by kernel_rfl
theorem Try.ok17 : CallOk Try.prog 17 := ⟨_, Try.func17, by kernel_rfl, by kernel_rfl⟩

set_option maxHeartbeats 1000000 in
theorem rblock_ok {kv : Value} {kl bl : List UInt8} {w0 : World} (hkv : Rd w0 kv (kl.map vB)) (hk : kl.length = 16) (hb : bl.length = 16) :
    Calls Try.prog 12 #[kv, .agg (bl.map vB).toArray] w0 fun e w' => e = .returned (.agg ((o16 (rS (wks kl) bl 10) 16).map vB).toArray) ∧ Ext w0 w' := by
  obtain ⟨Ak, ck, rfl, hk1, hk2, hkc⟩ := hkv.isB
  obtain ⟨bk, ok, rfl, hkc⟩ := hkc (by omega)
  rw [hk] at hkv hk1 hkc ⊢
  refine calls_start 214 Try.func12 rfl Try.ntmps12 rfl fun a hF => ?_
  have hS := St.refl w0
  refine wp_seq_k fun Kq1 hKq1 => ?_
  -- region 0 (ref.go:43)
  refine wp_region_lit ?_
  refine wpList_stp (stp_box hF (wanted_none rfl) rfl rfl rfl (hF.t rfl) rfl hS fun bb a w hF hS => ?_)
  refine wpList_stp (stp_alloc hF (wanted_none rfl) rfl rfl rfl Try.zv23 rfl hS fun res a w hF hS => ?_)
  refine wpList_nil ?_
  refine then_normal (hKq1 _ _ ?_)
  refine wp_seq_k fun Kq2 hKq2 => ?_
  -- region 1 (ref.go:44)
  refine wp_region_lit ?_
  refine wpList_stp (stp_call hF (wanted_none rfl) rfl rfl Try.ok17 rfl Evs.nil (others_any _) fun e w h => ?_)
  obtain ⟨rfl, hx⟩ := h
  refine ⟨_, rfl, fun a hF => ?_⟩
  replace hS := hS.ext hx
  clear hx
  refine wpList_stp (stp_alloc hF (wanted_none rfl) rfl rfl rfl Try.zv49 rfl hS fun t a w hF hS => ?_)
  refine wpList_stp (stp_storeAll hF (wanted_none rfl) rfl rfl (Try.sz49.trans (congrArg some (by rw [List.length_map, swapL_len]))) (hF.t rfl) (hF.t rfl) (one_M _) hS (k := 0) rfl (by simp only [List.length_map, List.length_replicate, swapL_len]) fun w hS => ?_)
  refine wpList_nil ?_
  refine then_normal (hKq2 _ _ ?_)
  refine wp_seq_k fun Kq3 hKq3 => ?_
  -- region 2 (ref.go:45)
  refine wp_region_lit ?_
  refine wpList_stp (stp_alloc hF (wanted_none rfl) rfl rfl rfl Try.zv52 rfl hS fun ww a w hF hS => ?_)
  rw [rep_blkM] at hS
  refine wpList_nil ?_
  refine then_normal (hKq3 _ _ ?_)
  refine wp_seq_k fun Kq4 hKq4 => ?_
  -- region 3 (ref.go:46)
  refine wp_region_lit ?_
  refine wpList_stp (stp_gv hF (wanted_none rfl) rfl rfl (gv_assign rfl (ev_const _ _)) fun a hF => ?_)
  refine wpList_nil ?_
  refine then_normal (hKq4 _ _ ?_)
  refine wp_seq_k fun Kq5 hKq5 => ?_
  refine wp_seq_k fun Kq6 hKq6 => ?_
  -- region 4 (ref.go:47)
  refine wp_region_lit ?_
  refine wpList_stp (stp_gv hF (wanted_none rfl) rfl rfl (gv_assign rfl (ev_const _ _)) fun a hF => ?_)
  refine wpList_nil ?_
  refine then_normal (hKq6 _ _ ?_)
  refine wp_block ?_
  refine wp_loop_n (fun n a w => ∃ i, i ≤ 44 ∧ n = 44 - i ∧ Fr 214 a [(0, .slice (some ⟨bk, ok, none⟩) 16 ck), (3, .pointer (some ⟨bb, 0, none⟩)), (4, .pointer (some ⟨res, 0, none⟩)), (5, .pointer (some ⟨t, 0, none⟩)), (6, .pointer (some ⟨ww, 0, none⟩)), (7, vN (wst kl i).2), (8, vI i)] ∧ St w0 w [⟨true, some ww, blkM 52 ((wst kl i).1)⟩, ⟨true, some t, blkM 49 swapL⟩, ⟨true, some res, blkB 23 (List.replicate 16 0)⟩, ⟨true, some bb, blkB 23 bl⟩]) 44 ⟨0, by omega, by omega, hF.sub ⟨rfl, rfl, rfl, rfl, rfl, rfl, rfl, trivial⟩, by rw [wst_zero]; exact hS⟩ ?_
  rintro n a w ⟨i, hi, hn, hF, hS⟩
  refine wp_seq_k fun Kq7 hKq7 => ?_
  refine wp_seq_k fun Kq8 hKq8 => ?_
  -- region 5 (ref.go:47)
  refine wp_region_lit ?_
  refine wpList_stp (stp_gv hF (wanted_none rfl) rfl rfl (gv_move rfl (hF.t rfl)) fun a hF => ?_)
  refine wpList_stp (stp_gv hF (wanted_none rfl) rfl rfl (gv_lss rfl (hF.t rfl) (ev_const _ _)) fun a hF => ?_)
  refine wpList_nil ?_
  refine then_normal (hKq8 _ _ ?_)
  refine cond_dec (hF.t rfl) (fun hc22 => ?_) (fun hc22 => ?_)
  ·
    refine wp_skip ?_
    refine then_normal (hKq7 _ _ ?_)
    refine wp_cut (fun a w => Fr 214 a [(0, .slice (some ⟨bk, ok, none⟩) 16 ck), (3, .pointer (some ⟨bb, 0, none⟩)), (4, .pointer (some ⟨res, 0, none⟩)), (5, .pointer (some ⟨t, 0, none⟩)), (6, .pointer (some ⟨ww, 0, none⟩)), (7, vN (wst kl (i + 1)).2), (8, vI i)] ∧ St w0 w [⟨true, some ww, blkM 52 ((wst kl (i + 1)).1)⟩, ⟨true, some t, blkM 49 swapL⟩, ⟨true, some res, blkB 23 (List.replicate 16 0)⟩, ⟨true, some bb, blkB 23 bl⟩]) ?_ ?_
    ·
      refine wp_block ?_
      refine wp_seq_k fun Kq9 hKq9 => ?_
      refine wp_seq_k fun Kq10 hKq10 => ?_
      -- region 7 (ref.go:48)
      refine wp_region_lit ?_
      refine wpList_stp (stp_gv hF (wanted_none rfl) rfl rfl (gv_assign rfl (ev_const _ _)) fun a hF => ?_)
      refine wpList_nil ?_
      refine then_normal (hKq10 _ _ ?_)
      refine wp_block ?_
      refine wp_loop_n (fun q a w => ∃ k, k ≤ 4 ∧ q = 4 - k ∧ Fr 214 a [(0, .slice (some ⟨bk, ok, none⟩) 16 ck), (3, .pointer (some ⟨bb, 0, none⟩)), (4, .pointer (some ⟨res, 0, none⟩)), (5, .pointer (some ⟨t, 0, none⟩)), (6, .pointer (some ⟨ww, 0, none⟩)), (7, vN (wst kl i).2), (8, vI i), (9, vI k)] ∧ St w0 w [⟨true, some ww, blkM 52 (win kl (wst kl i).1 i k)⟩, ⟨true, some t, blkM 49 swapL⟩, ⟨true, some res, blkB 23 (List.replicate 16 0)⟩, ⟨true, some bb, blkB 23 bl⟩]) 4 ⟨0, by omega, by omega, hF.sub ⟨rfl, rfl, rfl, rfl, rfl, rfl, rfl, rfl, trivial⟩, hS⟩ ?_
      rintro q a w ⟨k, hk4, hq, hF, hS⟩
      refine wp_seq_k fun Kq11 hKq11 => ?_
      refine wp_seq_k fun Kq12 hKq12 => ?_
      -- region 8 (ref.go:48)
      refine wp_region_lit ?_
      refine wpList_stp (stp_gv hF (wanted_none rfl) rfl rfl (gv_move rfl (hF.t rfl)) fun a hF => ?_)
      refine wpList_stp (stp_gv hF (wanted_none rfl) rfl rfl (gv_lss rfl (hF.t rfl) (ev_const _ _)) fun a hF => ?_)
      refine wpList_nil ?_
      refine then_normal (hKq12 _ _ ?_)
      refine cond_dec (hF.t rfl) (fun hc26 => ?_) (fun hc26 => ?_)
      ·
        refine wp_skip ?_
        refine then_normal (hKq11 _ _ ?_)
        refine wp_cut (fun a w => Fr 214 a [(0, .slice (some ⟨bk, ok, none⟩) 16 ck), (3, .pointer (some ⟨bb, 0, none⟩)), (4, .pointer (some ⟨res, 0, none⟩)), (5, .pointer (some ⟨t, 0, none⟩)), (6, .pointer (some ⟨ww, 0, none⟩)), (7, vN (wst kl i).2), (8, vI i), (9, vI k)] ∧ St w0 w [⟨true, some ww, blkM 52 (win kl (wst kl i).1 i (k + 1))⟩, ⟨true, some t, blkM 49 swapL⟩, ⟨true, some res, blkB 23 (List.replicate 16 0)⟩, ⟨true, some bb, blkB 23 bl⟩]) ?_ ?_
        ·
          refine wp_block ?_
          refine wp_seq_k fun Kq13 hKq13 => ?_
          -- region 10 (ref.go:49)
          refine wp_region_lit ?_
          refine wpList_stp (stp_gv hF (wanted_none rfl) rfl rfl (gv_move rfl (hF.t rfl)) fun a hF => ?_)
          refine wpList_stp (stp_gv hF (wanted_none rfl) rfl rfl (gv_lss rfl (hF.t rfl) (ev_const _ _)) fun a hF => ?_)
          refine wpList_nil ?_
          refine then_normal (hKq13 _ _ ?_)
          refine cond_dec (hF.t rfl) (fun h30 => ?_) (fun h30 => ?_)
          ·
            -- region 11 (ref.go:50)
            refine Fw.wp_region_draw (by kernel_rfl) fun w hx => ?_
            replace hS := hS.ext hx
            clear hx
            refine run_head0 (n := 12) _ hF (by kernel_rfl) rfl ?_
            refine dw_gv hF rfl (wanted_none rfl) rfl rfl (fun w hx => gv_move rfl (hF.t rfl)) fun a hF => ?_
            refine dw_gv hF rfl (wanted_none rfl) rfl rfl (fun w hx => gv_move rfl (hF.t rfl)) fun a hF => ?_
            refine dw_gv hF rfl (wanted_none rfl) rfl rfl (fun w hx => gv_move rfl (hF.t rfl)) fun a hF => ?_
            refine dw_gv hF rfl (wanted_none rfl) rfl rfl (fun w hx => gv_move rfl (hF.t rfl)) fun a hF => ?_
            refine dw_gv hF rfl (wanted_none rfl) rfl rfl (fun w hx => gv_nmul (m := 4) rfl rfl (hF.t rfl) (by omega)) fun a hF => ?_
            refine dw_gv hF rfl (wanted_none rfl) rfl rfl (fun w hx => gv_move rfl (hF.t rfl)) fun a hF => ?_
            refine dw_gv hF rfl (wanted_none rfl) rfl rfl (fun w hx => gv_nadd rfl (hF.t rfl) (hF.t rfl) (by omega)) fun a hF => ?_
            refine dw_gv hF rfl (wanted_none rfl) rfl rfl (fun w hx => gv_indexSl rfl Try.underlying22 Try.sz5 (hF.t rfl) (hF.t rfl) (by omega)) fun a hF => ?_
            refine dw_gv hF rfl (wanted_none rfl) rfl rfl (fun w hx => gv_load rfl Try.underlying5 rfl (hF.t rfl) (cell_ix ((hkv.ext (((hS.ext hx)).toExt (by simp))).cellB (4 * i + k) (by omega)) (by omega))) fun a hF => ?_
            refine dw_gv hF rfl (wanted_none rfl) rfl rfl (fun w hx => gv_conv_b_i rfl Try.underlying5 Try.underlying3 (hF.t rfl)) fun a hF => ?_
            refine dw_gv hF rfl (wanted_none rfl) rfl rfl (fun w hx => gv_indexArr rfl Try.underlying52 Try.sz51 (hF.t rfl) (hF.t rfl) (by omega)) fun a hF => ?_
            refine dw_gv hF rfl (wanted_none rfl) rfl rfl (fun w hx => gv_indexArr rfl Try.underlying51 Try.sz3 (hF.t rfl) (hF.t rfl) (by omega)) fun a hF => ?_
            refine dw_nil fun a w hA hx => ?_
            replace hF := hA _ hF
            replace hS := hS.ext hx
            clear hA hx
            refine run_stp (by kernel_rfl) rfl (stp_storeM (i * 4 + k) hF (wanted_none rfl) rfl rfl Try.sz3 (hF.t rfl) (by omega) (hF.t rfl) hS (k := 0) rfl (by rw [win_len, wst_len]; omega) fun w hS => ?_)
            refine run_done (by decide) ?_
            refine block_normal ?_
            refine then_normal ?_
            exact ⟨hF.sub ⟨rfl, rfl, rfl, rfl, rfl, rfl, rfl, rfl, trivial⟩, by rw [win, wnew, if_pos (by omega)]; exact hS⟩
          ·
            refine wp_seq_k fun Kq14 hKq14 => ?_
            -- region 12 (ref.go:51)
            refine wp_region_lit ?_
            refine wpList_stp (stp_gv hF (wanted_none rfl) rfl rfl (gv_move rfl (hF.t rfl)) fun a hF => ?_)
            refine wpList_stp (stp_gv hF (wanted_none rfl) rfl rfl (gv_nrem (n := 4) rfl (hF.t rfl) rfl (by omega)) fun a hF => ?_)
            refine wpList_stp (stp_gv hF (wanted_none rfl) rfl rfl (gv_gtr rfl (hF.t rfl) (ev_const _ _)) fun a hF => ?_)
            refine wpList_nil ?_
            refine then_normal (hKq14 _ _ ?_)
            refine cond_dec (hF.t rfl) (fun h45 => ?_) (fun h45 => ?_)
            ·
              -- region 13 (ref.go:52)
              refine Fw.wp_region_draw (by kernel_rfl) fun w hx => ?_
              replace hS := hS.ext hx
              clear hx
              refine run_head0 (n := 17) _ hF (by kernel_rfl) rfl ?_
              refine dw_gv hF rfl (wanted_none rfl) rfl rfl (fun w hx => gv_move rfl (hF.t rfl)) fun a hF => ?_
              refine dw_gv hF rfl (wanted_none rfl) rfl rfl (fun w hx => gv_move rfl (hF.t rfl)) fun a hF => ?_
              refine dw_gv hF rfl (wanted_none rfl) rfl rfl (fun w hx => gv_move rfl (hF.t rfl)) fun a hF => ?_
              refine dw_gv hF rfl (wanted_none rfl) rfl rfl (fun w hx => gv_nsub (n := 4) rfl (hF.t rfl) rfl (by omega) (by omega)) fun a hF => ?_
              refine dw_gv hF rfl (wanted_none rfl) rfl rfl (fun w hx => gv_move rfl (hF.t rfl)) fun a hF => ?_
              refine dw_gv hF rfl (wanted_none rfl) rfl rfl (fun w hx => gv_indexArr rfl Try.underlying52 Try.sz51 (hF.t rfl) (hF.t rfl) (by omega)) fun a hF => ?_
              refine dw_gv hF rfl (wanted_none rfl) rfl rfl (fun w hx => gv_indexArr rfl Try.underlying51 Try.sz3 (hF.t rfl) (hF.t rfl) (by omega)) fun a hF => ?_
              refine dw_gv hF rfl (wanted_none rfl) rfl rfl (fun w hx => gv_load rfl Try.underlying3 rfl (hF.t rfl) (cell_ix ((hS.ext hx).cellM (k := 0) rfl ((i - 4) * 4 + k) (by rw [win_len, wst_len]; omega)) (by omega))) fun a hF => ?_
              refine dw_gv hF rfl (wanted_none rfl) rfl rfl (fun w hx => gv_move rfl (hF.t rfl)) fun a hF => ?_
              refine dw_gv hF rfl (wanted_none rfl) rfl rfl (fun w hx => gv_nsub (n := 1) rfl (hF.t rfl) rfl (by omega) (by omega)) fun a hF => ?_
              refine dw_gv hF rfl (wanted_none rfl) rfl rfl (fun w hx => gv_move rfl (hF.t rfl)) fun a hF => ?_
              refine dw_gv hF rfl (wanted_none rfl) rfl rfl (fun w hx => gv_indexArr rfl Try.underlying52 Try.sz51 (hF.t rfl) (hF.t rfl) (by omega)) fun a hF => ?_
              refine dw_gv hF rfl (wanted_none rfl) rfl rfl (fun w hx => gv_indexArr rfl Try.underlying51 Try.sz3 (hF.t rfl) (hF.t rfl) (by omega)) fun a hF => ?_
              refine dw_gv hF rfl (wanted_none rfl) rfl rfl (fun w hx => gv_load rfl Try.underlying3 rfl (hF.t rfl) (cell_ix ((hS.ext hx).cellM (k := 0) rfl ((i - 1) * 4 + k) (by rw [win_len, wst_len]; omega)) (by omega))) fun a hF => ?_
              refine dw_gv hF rfl (wanted_none rfl) rfl rfl (fun w hx => gv_x8 rfl (hF.t rfl) (hF.t rfl)) fun a hF => ?_
              refine dw_gv hF rfl (wanted_none rfl) rfl rfl (fun w hx => gv_indexArr rfl Try.underlying52 Try.sz51 (hF.t rfl) (hF.t rfl) (by omega)) fun a hF => ?_
              refine dw_gv hF rfl (wanted_none rfl) rfl rfl (fun w hx => gv_indexArr rfl Try.underlying51 Try.sz3 (hF.t rfl) (hF.t rfl) (by omega)) fun a hF => ?_
              refine dw_nil fun a w hA hx => ?_
              replace hF := hA _ hF
              replace hS := hS.ext hx
              clear hA hx
              refine run_stp (by kernel_rfl) rfl (stp_storeM (i * 4 + k) hF (wanted_none rfl) rfl rfl Try.sz3 (hF.t rfl) (by omega) (hF.t rfl) hS (k := 0) rfl (by rw [win_len, wst_len]; omega) fun w hS => ?_)
              refine run_done (by decide) ?_
              refine block_normal ?_
              refine then_normal ?_
              exact ⟨hF.sub ⟨rfl, rfl, rfl, rfl, rfl, rfl, rfl, rfl, trivial⟩, by rw [win, wnew, if_neg (by omega), if_pos (by omega)]; exact hS⟩
            ·
              -- region 14 (ref.go:54)
              refine Fw.wp_region_draw (by kernel_rfl) fun w hx => ?_
              replace hS := hS.ext hx
              clear hx
              refine run_head0 (n := 21) _ hF (by kernel_rfl) rfl ?_
              refine dw_gv hF rfl (wanted_none rfl) rfl rfl (fun w hx => gv_move rfl (hF.t rfl)) fun a hF => ?_
              refine dw_gv hF rfl (wanted_none rfl) rfl rfl (fun w hx => gv_move rfl (hF.t rfl)) fun a hF => ?_
              refine dw_gv hF rfl (wanted_none rfl) rfl rfl (fun w hx => gv_move rfl (hF.t rfl)) fun a hF => ?_
              refine dw_gv hF rfl (wanted_none rfl) rfl rfl (fun w hx => gv_nsub (n := 4) rfl (hF.t rfl) rfl (by omega) (by omega)) fun a hF => ?_
              refine dw_gv hF rfl (wanted_none rfl) rfl rfl (fun w hx => gv_move rfl (hF.t rfl)) fun a hF => ?_
              refine dw_gv hF rfl (wanted_none rfl) rfl rfl (fun w hx => gv_indexArr rfl Try.underlying52 Try.sz51 (hF.t rfl) (hF.t rfl) (by omega)) fun a hF => ?_
              refine dw_gv hF rfl (wanted_none rfl) rfl rfl (fun w hx => gv_indexArr rfl Try.underlying51 Try.sz3 (hF.t rfl) (hF.t rfl) (by omega)) fun a hF => ?_
              refine dw_gv hF rfl (wanted_none rfl) rfl rfl (fun w hx => gv_load rfl Try.underlying3 rfl (hF.t rfl) (cell_ix ((hS.ext hx).cellM (k := 0) rfl ((i - 4) * 4 + k) (by rw [win_len, wst_len]; omega)) (by omega))) fun a hF => ?_
              refine dw_gv hF rfl (wanted_none rfl) rfl rfl (fun w hx => gv_move rfl (hF.t rfl)) fun a hF => ?_
              refine dw_gv hF rfl (wanted_none rfl) rfl rfl (fun w hx => gv_nsub (n := 1) rfl (hF.t rfl) rfl (by omega) (by omega)) fun a hF => ?_
              refine dw_gv hF rfl (wanted_none rfl) rfl rfl (fun w hx => gv_move rfl (hF.t rfl)) fun a hF => ?_
              refine dw_gv hF rfl (wanted_none rfl) rfl rfl (fun w hx => gv_nadd (n := 1) rfl (hF.t rfl) rfl (by omega)) fun a hF => ?_
              refine dw_gv hF rfl (wanted_none rfl) rfl rfl (fun w hx => gv_nrem (n := 4) rfl (hF.t rfl) rfl (by omega)) fun a hF => ?_
              refine dw_gv hF rfl (wanted_none rfl) rfl rfl (fun w hx => gv_indexArr rfl Try.underlying52 Try.sz51 (hF.t rfl) (hF.t rfl) (by omega)) fun a hF => ?_
              refine dw_gv hF rfl (wanted_none rfl) rfl rfl (fun w hx => gv_indexArr rfl Try.underlying51 Try.sz3 (hF.t rfl) (hF.t rfl) (by omega)) fun a hF => ?_
              refine dw_gv hF rfl (wanted_none rfl) rfl rfl (fun w hx => gv_load rfl Try.underlying3 rfl (hF.t rfl) (cell_ix ((hS.ext hx).cellM (k := 0) rfl ((i - 1) * 4 + (k + 1) % 4) (by rw [win_len, wst_len]; omega)) (by omega))) fun a hF => ?_
              refine dw_gv hF rfl (wanted_none rfl) rfl rfl (fun w hx => gv_indexArr rfl Try.underlying49 Try.sz3 (hF.t rfl) (hF.t rfl) (UInt8.toNat_lt _)) fun a hF => ?_
              refine dw_gv hF rfl (wanted_none rfl) rfl rfl (fun w hx => gv_load rfl Try.underlying3 rfl (hF.t rfl) (cell_ix (j := ((win kl (wst kl i).1 i k).getD ((i - 1) * 4 + (k + 1) % 4) 0).toNat) ((hS.ext hx).cell (k := 1) rfl (swn_at _)) (by omega))) fun a hF => ?_
              refine dw_gv hF rfl (wanted_none rfl) rfl rfl (fun w hx => gv_x8 rfl (hF.t rfl) (hF.t rfl)) fun a hF => ?_
              refine dw_gv hF rfl (wanted_none rfl) rfl rfl (fun w hx => gv_indexArr rfl Try.underlying52 Try.sz51 (hF.t rfl) (hF.t rfl) (by omega)) fun a hF => ?_
              refine dw_gv hF rfl (wanted_none rfl) rfl rfl (fun w hx => gv_indexArr rfl Try.underlying51 Try.sz3 (hF.t rfl) (hF.t rfl) (by omega)) fun a hF => ?_
              refine dw_nil fun a w hA hx => ?_
              replace hF := hA _ hF
              replace hS := hS.ext hx
              clear hA hx
              refine run_stp (by kernel_rfl) rfl (stp_storeM (i * 4 + k) hF (wanted_none rfl) rfl rfl Try.sz3 (hF.t rfl) (by omega) (hF.t rfl) hS (k := 0) rfl (by rw [win_len, wst_len]; omega) fun w hS => ?_)
              refine run_done (by decide) ?_
              refine block_normal ?_
              refine then_normal ?_
              exact ⟨hF.sub ⟨rfl, rfl, rfl, rfl, rfl, rfl, rfl, rfl, trivial⟩, by rw [win, wnew, if_neg (by omega), if_neg (by omega)]; exact hS⟩
        · rintro a w ⟨hF, hS⟩
          -- region 9 (ref.go:48)
          refine wp_region_lit ?_
          refine wpList_stp (stp_gv hF (wanted_none rfl) rfl rfl (gv_move rfl (hF.t rfl)) fun a hF => ?_)
          refine wpList_stp (stp_gv hF (wanted_none rfl) rfl rfl (gv_nadd (n := 1) rfl (hF.t rfl) rfl (by omega)) fun a hF => ?_)
          refine wpList_stp (stp_gv hF (wanted_none rfl) rfl rfl (gv_assign rfl (hF.t rfl)) fun a hF => ?_)
          refine wpList_nil ?_
          refine then_normal ?_
          exact ⟨q - 1, by omega, k + 1, by omega, by omega, hF.sub ⟨rfl, rfl, rfl, rfl, rfl, rfl, rfl, rfl, trivial⟩, hS⟩
      ·
        refine wp_exit ?_
        refine then_exit ?_
        refine then_exit ?_
        refine block_exit ?_
        refine then_normal (hKq9 _ _ ?_)
        refine wp_seq_k fun Kq15 hKq15 => ?_
        obtain rfl : k = 4 := by omega
        -- region 15 (ref.go:57)
        refine wp_region_lit ?_
        refine wpList_stp (stp_gv hF (wanted_none rfl) rfl rfl (gv_move rfl (hF.t rfl)) fun a hF => ?_)
        refine wpList_stp (stp_gv hF (wanted_none rfl) rfl rfl (gv_geq rfl (hF.t rfl) (ev_const _ _)) fun a hF => ?_)
        refine wpList_stp (stp_gv hF (wanted_none rfl) rfl rfl (gv_move rfl (hF.t rfl)) fun a hF => ?_)
        refine wpList_stp (stp_gvG hF rfl rfl rfl rfl rfl (fun hg => gv_move rfl (hF.t rfl)) fun a hF => ?_)
        refine wpList_stp (stp_gvG hF rfl rfl rfl rfl rfl (fun hg => gv_nrem (n := 4) rfl ((hF.t rfl).trans (if_pos hg)) rfl (by omega)) fun a hF => ?_)
        refine wpList_stp (stp_gvG hF rfl rfl rfl rfl rfl (fun hg => gv_eql rfl ((hF.t rfl).trans (if_pos hg)) (ev_const _ _)) fun a hF => ?_)
        refine wpList_stp (stp_gv hF (wanted_none rfl) rfl rfl (gv_pickAnd rfl (hF.t rfl) (hF.t rfl) (ev_const _ _)) fun a hF => ?_)
        refine wpList_nil ?_
        refine then_normal (hKq15 _ _ ?_)
        refine cond_dec (hF.t rfl) (fun h90 => ?_) (fun h90 => ?_)
        ·
          refine wp_seq_k fun Kq16 hKq16 => ?_
          -- region 16 (ref.go:58)
          refine Fw.wp_region_draw (by kernel_rfl) fun w hx => ?_
          replace hS := hS.ext hx
          clear hx
          refine run_head0 (n := 9) _ hF (by kernel_rfl) rfl ?_
          refine dw_gv hF rfl (wanted_none rfl) rfl rfl (fun w hx => gv_move rfl (hF.t rfl)) fun a hF => ?_
          refine dw_gv hF rfl (wanted_none rfl) rfl rfl (fun w hx => gv_move rfl (hF.t rfl)) fun a hF => ?_
          refine dw_gv hF rfl (wanted_none rfl) rfl rfl (fun w hx => gv_indexArr rfl Try.underlying52 Try.sz51 (hF.t rfl) (hF.t rfl) (by omega)) fun a hF => ?_
          refine dw_gv hF rfl (wanted_none rfl) rfl rfl (fun w hx => gv_indexArr (q := 0) rfl Try.underlying51 Try.sz3 (hF.t rfl) rfl (by omega)) fun a hF => ?_
          refine dw_gv hF rfl (wanted_none rfl) rfl rfl (fun w hx => gv_load rfl Try.underlying3 rfl (hF.t rfl) (cell_ix ((hS.ext hx).cellM (k := 0) rfl (i * 4) (by rw [win_len, wst_len]; omega)) (by omega))) fun a hF => ?_
          refine dw_gv hF rfl (wanted_none rfl) rfl rfl (fun w hx => gv_move rfl (hF.t rfl)) fun a hF => ?_
          refine dw_gv hF rfl (wanted_none rfl) rfl rfl (fun w hx => gv_x8 rfl (hF.t rfl) (hF.t rfl)) fun a hF => ?_
          refine dw_gv hF rfl (wanted_none rfl) rfl rfl (fun w hx => gv_indexArr rfl Try.underlying52 Try.sz51 (hF.t rfl) (hF.t rfl) (by omega)) fun a hF => ?_
          refine dw_gv hF rfl (wanted_none rfl) rfl rfl (fun w hx => gv_indexArr (q := 0) rfl Try.underlying51 Try.sz3 (hF.t rfl) rfl (by omega)) fun a hF => ?_
          refine dw_nil fun a w hA hx => ?_
          replace hF := hA _ hF
          replace hS := hS.ext hx
          clear hA hx
          refine run_stp (by kernel_rfl) rfl (stp_storeM (i * 4) hF (wanted_none rfl) rfl rfl Try.sz3 (hF.t rfl) (by omega) (hF.t rfl) hS (k := 0) rfl (by rw [win_len, wst_len]; omega) fun w hS => ?_)
          refine run_done (by decide) ?_
          refine then_normal (hKq16 _ _ ?_)
          -- region 17 (ref.go:59)
          refine wp_region_lit ?_
          refine wpList_stp (stp_gv hF (wanted_none rfl) rfl rfl (gv_move rfl (hF.t rfl)) fun a hF => ?_)
          refine wpList_stp (stp_call hF (wanted_none rfl) rfl rfl Try.ok18 rfl (Evs.cons (hF.t rfl) (Evs.cons (ev_const _ _) Evs.nil)) (timesr2) fun e w h => ?_)
          obtain ⟨rfl, hx⟩ := h
          refine ⟨_, rfl, fun a hF => ?_⟩
          replace hS := hS.ext hx
          clear hx
          refine wpList_stp (stp_gv hF (wanted_none rfl) rfl rfl (gv_assign rfl (hF.t rfl)) fun a hF => ?_)
          refine wpList_nil ?_
          refine block_normal ?_
          refine then_normal ?_
          exact ⟨by rw [wst_succ, wrow, if_pos ⟨by omega, by omega⟩]; exact hF.sub ⟨rfl, rfl, rfl, rfl, rfl, rfl, rfl, trivial⟩, by rw [wst_succ, wrow, if_pos ⟨by omega, by omega⟩]; exact hS⟩
        ·
          refine wp_skip ?_
          refine block_normal ?_
          refine then_normal ?_
          have h90n : ¬ (4 ≤ i ∧ i % 4 = 0) := fun h => h90 ⟨by omega, by omega⟩
          exact ⟨by rw [wst_succ, wrow, if_neg h90n]; exact hF.sub ⟨rfl, rfl, rfl, rfl, rfl, rfl, rfl, trivial⟩, by rw [wst_succ, wrow, if_neg h90n]; exact hS⟩
    · rintro a w ⟨hF, hS⟩
      -- region 6 (ref.go:47)
      refine wp_region_lit ?_
      refine wpList_stp (stp_gv hF (wanted_none rfl) rfl rfl (gv_move rfl (hF.t rfl)) fun a hF => ?_)
      refine wpList_stp (stp_gv hF (wanted_none rfl) rfl rfl (gv_nadd (n := 1) rfl (hF.t rfl) rfl (by omega)) fun a hF => ?_)
      refine wpList_stp (stp_gv hF (wanted_none rfl) rfl rfl (gv_assign rfl (hF.t rfl)) fun a hF => ?_)
      refine wpList_nil ?_
      refine then_normal ?_
      exact ⟨n - 1, by omega, i + 1, by omega, by omega, hF.sub ⟨rfl, rfl, rfl, rfl, rfl, rfl, rfl, trivial⟩, hS⟩
  ·
    refine wp_exit ?_
    refine then_exit ?_
    refine then_exit ?_
    refine block_exit ?_
    refine then_normal (hKq5 _ _ ?_)
    refine wp_seq_k fun Kq17 hKq17 => ?_
    obtain rfl : i = 44 := by omega
    rw [wks_def] at hS
    -- region 18 (ref.go:62)
    refine wp_region_lit ?_
    refine wpList_stp (stp_alloc hF (wanted_none rfl) rfl rfl rfl Try.zv54 rfl hS fun ss a w hF hS => ?_)
    rw [rep_blkM] at hS
    refine wpList_nil ?_
    refine then_normal (hKq17 _ _ ?_)
    refine wp_seq_k fun Kq18 hKq18 => ?_
    refine wp_seq_k fun Kq19 hKq19 => ?_
    -- region 19 (ref.go:63)
    refine wp_region_lit ?_
    refine wpList_stp (stp_gv hF (wanted_none rfl) rfl rfl (gv_assign rfl (ev_const _ _)) fun a hF => ?_)
    refine wpList_nil ?_
    refine then_normal (hKq19 _ _ ?_)
    refine wp_block ?_
    refine wp_loop_n (fun n a w => ∃ i, i ≤ 16 ∧ n = 16 - i ∧ Fr 214 a [(0, .slice (some ⟨bk, ok, none⟩) 16 ck), (3, .pointer (some ⟨bb, 0, none⟩)), (4, .pointer (some ⟨res, 0, none⟩)), (5, .pointer (some ⟨t, 0, none⟩)), (6, .pointer (some ⟨ww, 0, none⟩)), (10, .pointer (some ⟨ss, 0, none⟩)), (11, vI i)] ∧ St w0 w [⟨true, some ss, blkM 54 (s0 (wks kl) bl i)⟩, ⟨true, some ww, blkM 52 (wks kl)⟩, ⟨true, some t, blkM 49 swapL⟩, ⟨true, some res, blkB 23 (List.replicate 16 0)⟩, ⟨true, some bb, blkB 23 bl⟩]) 16 ⟨0, by omega, by omega, hF.sub ⟨rfl, rfl, rfl, rfl, rfl, rfl, rfl, trivial⟩, hS⟩ ?_
    rintro n a w ⟨i, hi, hn, hF, hS⟩
    refine wp_seq_k fun Kq20 hKq20 => ?_
    refine wp_seq_k fun Kq21 hKq21 => ?_
    -- region 20 (ref.go:63)
    refine wp_region_lit ?_
    refine wpList_stp (stp_gv hF (wanted_none rfl) rfl rfl (gv_move rfl (hF.t rfl)) fun a hF => ?_)
    refine wpList_stp (stp_gv hF (wanted_none rfl) rfl rfl (gv_lss rfl (hF.t rfl) (ev_const _ _)) fun a hF => ?_)
    refine wpList_nil ?_
    refine then_normal (hKq21 _ _ ?_)
    refine cond_dec (hF.t rfl) (fun hc103 => ?_) (fun hc103 => ?_)
    ·
      refine wp_skip ?_
      refine then_normal (hKq20 _ _ ?_)
      refine wp_seq_k fun Kq22 hKq22 => ?_
      refine wp_block ?_
      -- region 22 (ref.go:64)
      refine Fw.wp_region_draw (by kernel_rfl) fun w hx => ?_
      replace hS := hS.ext hx
      clear hx
      refine run_head0 (n := 14) _ hF (by kernel_rfl) rfl ?_
      refine dw_gv hF rfl (wanted_none rfl) rfl rfl (fun w hx => gv_move rfl (hF.t rfl)) fun a hF => ?_
      refine dw_gv hF rfl (wanted_none rfl) rfl rfl (fun w hx => gv_move rfl (hF.t rfl)) fun a hF => ?_
      refine dw_gv hF rfl (wanted_none rfl) rfl rfl (fun w hx => gv_indexArr rfl Try.underlying23 Try.sz5 (hF.t rfl) (hF.t rfl) (by omega)) fun a hF => ?_
      refine dw_gv hF rfl (wanted_none rfl) rfl rfl (fun w hx => gv_load rfl Try.underlying5 rfl (hF.t rfl) (cell_ix ((hS.ext hx).cellB (k := 4) rfl (i) (by omega)) (by omega))) fun a hF => ?_
      refine dw_gv hF rfl (wanted_none rfl) rfl rfl (fun w hx => gv_conv_b_i rfl Try.underlying5 Try.underlying3 (hF.t rfl)) fun a hF => ?_
      refine dw_gv hF rfl (wanted_none rfl) rfl rfl (fun w hx => gv_move rfl (hF.t rfl)) fun a hF => ?_
      refine dw_gv hF rfl (wanted_none rfl) rfl rfl (fun w hx => gv_nquo (n := 4) rfl (hF.t rfl) rfl (by omega) (by omega)) fun a hF => ?_
      refine dw_gv hF rfl (wanted_none rfl) rfl rfl (fun w hx => gv_move rfl (hF.t rfl)) fun a hF => ?_
      refine dw_gv hF rfl (wanted_none rfl) rfl rfl (fun w hx => gv_nrem (n := 4) rfl (hF.t rfl) rfl (by omega)) fun a hF => ?_
      refine dw_gv hF rfl (wanted_none rfl) rfl rfl (fun w hx => gv_indexArr rfl Try.underlying52 Try.sz51 (hF.t rfl) (hF.t rfl) (by omega)) fun a hF => ?_
      refine dw_gv hF rfl (wanted_none rfl) rfl rfl (fun w hx => gv_indexArr rfl Try.underlying51 Try.sz3 (hF.t rfl) (hF.t rfl) (by omega)) fun a hF => ?_
      refine dw_gv hF rfl (wanted_none rfl) rfl rfl (fun w hx => gv_load rfl Try.underlying3 rfl (hF.t rfl) (cell_ix ((hS.ext hx).cellM (k := 1) rfl (i / 4 * 4 + i % 4) (by rw [wks_len]; omega)) (by omega))) fun a hF => ?_
      refine dw_gv hF rfl (wanted_none rfl) rfl rfl (fun w hx => gv_x8 rfl (hF.t rfl) (hF.t rfl)) fun a hF => ?_
      refine dw_gv hF rfl (wanted_none rfl) rfl rfl (fun w hx => gv_indexArr rfl Try.underlying54 Try.sz3 (hF.t rfl) (hF.t rfl) (by omega)) fun a hF => ?_
      refine dw_nil fun a w hA hx => ?_
      replace hF := hA _ hF
      replace hS := hS.ext hx
      clear hA hx
      refine run_stp (by kernel_rfl) rfl (stp_storeM (i) hF (wanted_none rfl) rfl rfl Try.sz3 (hF.t rfl) (by omega) (hF.t rfl) hS (k := 0) rfl (by rw [s0_len]; omega) fun w hS => ?_)
      refine run_done (by decide) ?_
      refine block_normal ?_
      refine then_normal (hKq22 _ _ ?_)
      -- region 21 (ref.go:63)
      refine wp_region_lit ?_
      refine wpList_stp (stp_gv hF (wanted_none rfl) rfl rfl (gv_move rfl (hF.t rfl)) fun a hF => ?_)
      refine wpList_stp (stp_gv hF (wanted_none rfl) rfl rfl (gv_nadd (n := 1) rfl (hF.t rfl) rfl (by omega)) fun a hF => ?_)
      refine wpList_stp (stp_gv hF (wanted_none rfl) rfl rfl (gv_assign rfl (hF.t rfl)) fun a hF => ?_)
      refine wpList_nil ?_
      refine then_normal ?_
      exact ⟨n - 1, by omega, i + 1, by omega, by omega, hF.sub ⟨rfl, rfl, rfl, rfl, rfl, rfl, rfl, trivial⟩, hS⟩
    ·
      refine wp_exit ?_
      refine then_exit ?_
      refine then_exit ?_
      refine block_exit ?_
      refine then_normal (hKq18 _ _ ?_)
      refine wp_seq_k fun Kq23 hKq23 => ?_
      refine wp_seq_k fun Kq24 hKq24 => ?_
      -- region 23 (ref.go:66)
      refine wp_region_lit ?_
      refine wpList_stp (stp_gv hF (wanted_none rfl) rfl rfl (gv_assign rfl (ev_const _ _)) fun a hF => ?_)
      refine wpList_nil ?_
      refine then_normal (hKq24 _ _ ?_)
      refine wp_block ?_
      obtain rfl : i = 16 := by omega
      refine wp_loop_n (fun n a w => ∃ r, r ≤ 10 ∧ n = 10 - r ∧ Fr 214 a [(0, .slice (some ⟨bk, ok, none⟩) 16 ck), (3, .pointer (some ⟨bb, 0, none⟩)), (4, .pointer (some ⟨res, 0, none⟩)), (5, .pointer (some ⟨t, 0, none⟩)), (6, .pointer (some ⟨ww, 0, none⟩)), (10, .pointer (some ⟨ss, 0, none⟩)), (12, vI (r + 1))] ∧ St w0 w [⟨true, some ss, blkM 54 (rS (wks kl) bl r)⟩, ⟨true, some ww, blkM 52 (wks kl)⟩, ⟨true, some t, blkM 49 swapL⟩, ⟨true, some res, blkB 23 (List.replicate 16 0)⟩, ⟨true, some bb, blkB 23 bl⟩]) 10 ⟨0, by omega, by omega, hF.sub ⟨rfl, rfl, rfl, rfl, rfl, rfl, rfl, trivial⟩, by rw [rS_zero]; exact hS⟩ ?_
      rintro n a w ⟨r, hr, hn, hF, hS⟩
      refine wp_seq_k fun Kq25 hKq25 => ?_
      refine wp_seq_k fun Kq26 hKq26 => ?_
      -- region 24 (ref.go:66)
      refine wp_region_lit ?_
      refine wpList_stp (stp_gv hF (wanted_none rfl) rfl rfl (gv_move rfl (hF.t rfl)) fun a hF => ?_)
      refine wpList_stp (stp_gv hF (wanted_none rfl) rfl rfl (gv_leq rfl (hF.t rfl) (ev_const _ _)) fun a hF => ?_)
      refine wpList_nil ?_
      refine then_normal (hKq26 _ _ ?_)
      refine cond_dec (hF.t rfl) (fun hc121 => ?_) (fun hc121 => ?_)
      ·
        refine wp_skip ?_
        refine then_normal (hKq25 _ _ ?_)
        refine wp_seq_k fun Kq27 hKq27 => ?_
        refine wp_block ?_
        refine wp_seq_k fun Kq28 hKq28 => ?_
        -- region 26 (ref.go:67)
        refine wp_region_lit ?_
        refine wpList_stp (stp_alloc hF (wanted_none rfl) rfl rfl rfl Try.zv54 rfl hS fun u a w hF hS => ?_)
        rw [rep_blkM] at hS
        refine wpList_stp (stp_alloc hF (wanted_none rfl) rfl rfl rfl Try.zv54 rfl hS fun v a w hF hS => ?_)
        rw [rep_blkM] at hS
        refine wpList_nil ?_
        refine then_normal (hKq28 _ _ ?_)
        refine wp_seq_k fun Kq29 hKq29 => ?_
        refine wp_seq_k fun Kq30 hKq30 => ?_
        -- region 27 (ref.go:68)
        refine wp_region_lit ?_
        refine wpList_stp (stp_gv hF (wanted_none rfl) rfl rfl (gv_assign rfl (ev_const _ _)) fun a hF => ?_)
        refine wpList_nil ?_
        refine then_normal (hKq30 _ _ ?_)
        refine wp_block ?_
        refine wp_loop_n (fun q a w => ∃ i, i ≤ 16 ∧ q = 16 - i ∧ Fr 214 a [(0, .slice (some ⟨bk, ok, none⟩) 16 ck), (3, .pointer (some ⟨bb, 0, none⟩)), (4, .pointer (some ⟨res, 0, none⟩)), (5, .pointer (some ⟨t, 0, none⟩)), (6, .pointer (some ⟨ww, 0, none⟩)), (10, .pointer (some ⟨ss, 0, none⟩)), (12, vI (r + 1)), (13, .pointer (some ⟨u, 0, none⟩)), (14, .pointer (some ⟨v, 0, none⟩)), (15, vI i)] ∧ St w0 w [⟨true, some v, blkM 54 (List.replicate 16 0)⟩, ⟨true, some u, blkM 54 (uu (rS (wks kl) bl r) i)⟩, ⟨true, some ss, blkM 54 (rS (wks kl) bl r)⟩, ⟨true, some ww, blkM 52 (wks kl)⟩, ⟨true, some t, blkM 49 swapL⟩, ⟨true, some res, blkB 23 (List.replicate 16 0)⟩, ⟨true, some bb, blkB 23 bl⟩]) 16 ⟨0, by omega, by omega, hF.sub ⟨rfl, rfl, rfl, rfl, rfl, rfl, rfl, rfl, rfl, rfl, trivial⟩, hS⟩ ?_
        rintro q a w ⟨i, hi, hq, hF, hS⟩
        refine wp_seq_k fun Kq31 hKq31 => ?_
        refine wp_seq_k fun Kq32 hKq32 => ?_
        -- region 28 (ref.go:68)
        refine wp_region_lit ?_
        refine wpList_stp (stp_gv hF (wanted_none rfl) rfl rfl (gv_move rfl (hF.t rfl)) fun a hF => ?_)
        refine wpList_stp (stp_gv hF (wanted_none rfl) rfl rfl (gv_lss rfl (hF.t rfl) (ev_const _ _)) fun a hF => ?_)
        refine wpList_nil ?_
        refine then_normal (hKq32 _ _ ?_)
        refine cond_dec (hF.t rfl) (fun hc125 => ?_) (fun hc125 => ?_)
        ·
          refine wp_skip ?_
          refine then_normal (hKq31 _ _ ?_)
          refine wp_seq_k fun Kq33 hKq33 => ?_
          refine wp_block ?_
          -- region 30 (ref.go:69)
          refine wp_region_lit ?_
          refine wpList_stp (stp_gv hF (wanted_none rfl) rfl rfl (gv_move rfl (hF.t rfl)) fun a hF => ?_)
          refine wpList_stp (stp_gv hF (wanted_none rfl) rfl rfl (gv_move rfl (hF.t rfl)) fun a hF => ?_)
          refine wpList_stp (stp_gv hF (wanted_none rfl) rfl rfl (gv_move rfl (hF.t rfl)) fun a hF => ?_)
          refine wpList_stp (stp_gv hF (wanted_none rfl) rfl rfl (gv_nrem (n := 4) rfl (hF.t rfl) rfl (by omega)) fun a hF => ?_)
          refine wpList_stp (stp_gv hF (wanted_none rfl) rfl rfl (gv_nmul (m := 4) rfl rfl (hF.t rfl) (by omega)) fun a hF => ?_)
          refine wpList_stp (stp_gv hF (wanted_none rfl) rfl rfl (gv_nadd rfl (hF.t rfl) (hF.t rfl) (by omega)) fun a hF => ?_)
          refine wpList_stp (stp_gv hF (wanted_none rfl) rfl rfl (gv_nrem (n := 16) rfl (hF.t rfl) rfl (by omega)) fun a hF => ?_)
          refine wpList_stp (stp_gv hF (wanted_none rfl) rfl rfl (gv_indexArr rfl Try.underlying54 Try.sz3 (hF.t rfl) (hF.t rfl) (by omega)) fun a hF => ?_)
          refine wpList_stp (stp_gv hF (wanted_none rfl) rfl rfl (gv_load rfl Try.underlying3 rfl (hF.t rfl) (cell_ix (hS.cellM (k := 2) rfl ((i + 4 * (i % 4)) % 16) (by rw [rS_len]; omega)) (by omega))) fun a hF => ?_)
          refine wpList_stp (stp_gv hF (wanted_none rfl) rfl rfl (gv_indexArr rfl Try.underlying49 Try.sz3 (hF.t rfl) (hF.t rfl) (UInt8.toNat_lt _)) fun a hF => ?_)
          refine wpList_stp (stp_gv hF (wanted_none rfl) rfl rfl (gv_load rfl Try.underlying3 rfl (hF.t rfl) (cell_ix (j := ((rS (wks kl) bl r).getD ((i + 4 * (i % 4)) % 16) 0).toNat) (hS.cell (k := 4) rfl (swn_at _)) (by omega))) fun a hF => ?_)
          refine wpList_stp (stp_gv hF (wanted_none rfl) rfl rfl (gv_indexArr rfl Try.underlying54 Try.sz3 (hF.t rfl) (hF.t rfl) (by omega)) fun a hF => ?_)
          refine wpList_stp (stp_storeM (i) hF (wanted_none rfl) rfl rfl Try.sz3 (hF.t rfl) (by omega) (hF.t rfl) hS (k := 1) rfl (by rw [uu_len]; omega) fun w hS => ?_)
          refine wpList_nil ?_
          refine block_normal ?_
          refine then_normal (hKq33 _ _ ?_)
          -- region 29 (ref.go:68)
          refine wp_region_lit ?_
          refine wpList_stp (stp_gv hF (wanted_none rfl) rfl rfl (gv_move rfl (hF.t rfl)) fun a hF => ?_)
          refine wpList_stp (stp_gv hF (wanted_none rfl) rfl rfl (gv_nadd (n := 1) rfl (hF.t rfl) rfl (by omega)) fun a hF => ?_)
          refine wpList_stp (stp_gv hF (wanted_none rfl) rfl rfl (gv_assign rfl (hF.t rfl)) fun a hF => ?_)
          refine wpList_nil ?_
          refine then_normal ?_
          exact ⟨q - 1, by omega, i + 1, by omega, by omega, hF.sub ⟨rfl, rfl, rfl, rfl, rfl, rfl, rfl, rfl, rfl, rfl, trivial⟩, hS⟩
        ·
          refine wp_exit ?_
          refine then_exit ?_
          refine then_exit ?_
          refine block_exit ?_
          refine then_normal (hKq29 _ _ ?_)
          refine wp_seq_k fun Kq34 hKq34 => ?_
          refine wp_seq_k fun Kq35 hKq35 => ?_
          -- region 31 (ref.go:71)
          refine wp_region_lit ?_
          refine wpList_stp (stp_gv hF (wanted_none rfl) rfl rfl (gv_assign rfl (ev_const _ _)) fun a hF => ?_)
          refine wpList_nil ?_
          refine then_normal (hKq35 _ _ ?_)
          refine wp_block ?_
          obtain rfl : i = 16 := by omega
          refine wp_loop_n (fun q a w => ∃ i, i ≤ 16 ∧ q = 16 - i ∧ Fr 214 a [(0, .slice (some ⟨bk, ok, none⟩) 16 ck), (3, .pointer (some ⟨bb, 0, none⟩)), (4, .pointer (some ⟨res, 0, none⟩)), (5, .pointer (some ⟨t, 0, none⟩)), (6, .pointer (some ⟨ww, 0, none⟩)), (10, .pointer (some ⟨ss, 0, none⟩)), (12, vI (r + 1)), (13, .pointer (some ⟨u, 0, none⟩)), (14, .pointer (some ⟨v, 0, none⟩)), (16, vI i)] ∧ St w0 w [⟨true, some v, blkM 54 (vv (wks kl) (r + 1) (uu (rS (wks kl) bl r) 16) i)⟩, ⟨true, some u, blkM 54 (uu (rS (wks kl) bl r) 16)⟩, ⟨true, some ss, blkM 54 (rS (wks kl) bl r)⟩, ⟨true, some ww, blkM 52 (wks kl)⟩, ⟨true, some t, blkM 49 swapL⟩, ⟨true, some res, blkB 23 (List.replicate 16 0)⟩, ⟨true, some bb, blkB 23 bl⟩]) 16 ⟨0, by omega, by omega, hF.sub ⟨rfl, rfl, rfl, rfl, rfl, rfl, rfl, rfl, rfl, rfl, trivial⟩, hS⟩ ?_
          rintro q a w ⟨i, hi, hq, hF, hS⟩
          refine wp_seq_k fun Kq36 hKq36 => ?_
          refine wp_seq_k fun Kq37 hKq37 => ?_
          -- region 32 (ref.go:71)
          refine wp_region_lit ?_
          refine wpList_stp (stp_gv hF (wanted_none rfl) rfl rfl (gv_move rfl (hF.t rfl)) fun a hF => ?_)
          refine wpList_stp (stp_gv hF (wanted_none rfl) rfl rfl (gv_lss rfl (hF.t rfl) (ev_const _ _)) fun a hF => ?_)
          refine wpList_nil ?_
          refine then_normal (hKq37 _ _ ?_)
          refine cond_dec (hF.t rfl) (fun hc141 => ?_) (fun hc141 => ?_)
          ·
            refine wp_skip ?_
            refine then_normal (hKq36 _ _ ?_)
            refine wp_seq_k fun Kq38 hKq38 => ?_
            refine wp_block ?_
            refine wp_seq_k fun Kq39 hKq39 => ?_
            -- region 34 (ref.go:72)
            refine wp_region_lit ?_
            refine wpList_stp (stp_gv hF (wanted_none rfl) rfl rfl (gv_move rfl (hF.t rfl)) fun a hF => ?_)
            refine wpList_stp (stp_gv hF (wanted_none rfl) rfl rfl (gv_move rfl (hF.t rfl)) fun a hF => ?_)
            refine wpList_stp (stp_gv hF (wanted_none rfl) rfl rfl (gv_nrem (n := 4) rfl (hF.t rfl) rfl (by omega)) fun a hF => ?_)
            refine wpList_stp (stp_gv hF (wanted_none rfl) rfl rfl (gv_nsub rfl (hF.t rfl) (hF.t rfl) (by omega) (by omega)) fun a hF => ?_)
            refine wpList_stp (stp_gv hF (wanted_none rfl) rfl rfl (gv_assign rfl (hF.t rfl)) fun a hF => ?_)
            refine wpList_nil ?_
            refine then_normal (hKq39 _ _ ?_)
            refine wp_seq_k fun Kq40 hKq40 => ?_
            -- region 35 (ref.go:73)
            refine wp_region_lit ?_
            refine wpList_stp (stp_gv hF (wanted_none rfl) rfl rfl (gv_move rfl (hF.t rfl)) fun a hF => ?_)
            refine wpList_stp (stp_gv hF (wanted_none rfl) rfl rfl (gv_move rfl (hF.t rfl)) fun a hF => ?_)
            refine wpList_stp (stp_gv hF (wanted_none rfl) rfl rfl (gv_indexArr rfl Try.underlying54 Try.sz3 (hF.t rfl) (hF.t rfl) (by omega)) fun a hF => ?_)
            refine wpList_stp (stp_gv hF (wanted_none rfl) rfl rfl (gv_load rfl Try.underlying3 rfl (hF.t rfl) (cell_ix (hS.cellM (k := 1) rfl (i) (by rw [uu_len]; omega)) (by omega))) fun a hF => ?_)
            refine wpList_stp (stp_gv hF (wanted_none rfl) rfl rfl (gv_indexArr rfl Try.underlying54 Try.sz3 (hF.t rfl) (hF.t rfl) (by omega)) fun a hF => ?_)
            refine wpList_stp (stp_storeM (i) hF (wanted_none rfl) rfl rfl Try.sz3 (hF.t rfl) (by omega) (hF.t rfl) hS (k := 0) rfl (by rw [vv_len]; omega) fun w hS => ?_)
            refine wpList_nil ?_
            refine then_normal (hKq40 _ _ ?_)
            refine wp_cut (fun a w => Fr 214 a [(0, .slice (some ⟨bk, ok, none⟩) 16 ck), (3, .pointer (some ⟨bb, 0, none⟩)), (4, .pointer (some ⟨res, 0, none⟩)), (5, .pointer (some ⟨t, 0, none⟩)), (6, .pointer (some ⟨ww, 0, none⟩)), (10, .pointer (some ⟨ss, 0, none⟩)), (12, vI (r + 1)), (13, .pointer (some ⟨u, 0, none⟩)), (14, .pointer (some ⟨v, 0, none⟩)), (16, vI i)] ∧ St w0 w [⟨true, some v, blkM 54 ((vv (wks kl) (r + 1) (uu (rS (wks kl) bl r) 16) i).set i (mxv (r + 1) (uu (rS (wks kl) bl r) 16) i))⟩, ⟨true, some u, blkM 54 (uu (rS (wks kl) bl r) 16)⟩, ⟨true, some ss, blkM 54 (rS (wks kl) bl r)⟩, ⟨true, some ww, blkM 52 (wks kl)⟩, ⟨true, some t, blkM 49 swapL⟩, ⟨true, some res, blkB 23 (List.replicate 16 0)⟩, ⟨true, some bb, blkB 23 bl⟩]) ?_ ?_
            ·
              refine wp_seq_k fun Kq41 hKq41 => ?_
              -- region 36 (ref.go:74)
              refine wp_region_lit ?_
              refine wpList_stp (stp_gv hF (wanted_none rfl) rfl rfl (gv_move rfl (hF.t rfl)) fun a hF => ?_)
              refine wpList_stp (stp_gv hF (wanted_none rfl) rfl rfl (gv_lss rfl (hF.t rfl) (ev_const _ _)) fun a hF => ?_)
              refine wpList_nil ?_
              refine then_normal (hKq41 _ _ ?_)
              refine cond_dec (hF.t rfl) (fun h154 => ?_) (fun h154 => ?_)
              ·
                -- region 37 (ref.go:75)
                refine Fw.wp_region_draw (by kernel_rfl) fun w hx => ?_
                replace hS := hS.ext hx
                clear hx
                refine run_head0 (n := 31) _ hF (by kernel_rfl) rfl ?_
                refine dw_gv hF rfl (wanted_none rfl) rfl rfl (fun w hx => gv_move rfl (hF.t rfl)) fun a hF => ?_
                refine dw_gv hF rfl (wanted_none rfl) rfl rfl (fun w hx => gv_move rfl (hF.t rfl)) fun a hF => ?_
                refine dw_gv hF rfl (wanted_none rfl) rfl rfl (fun w hx => gv_indexArr rfl Try.underlying54 Try.sz3 (hF.t rfl) (hF.t rfl) (by omega)) fun a hF => ?_
                refine dw_gv hF rfl (wanted_none rfl) rfl rfl (fun w hx => gv_load rfl Try.underlying3 rfl (hF.t rfl) (cell_ix ((hS.ext hx).cellM (k := 1) rfl (i) (by rw [uu_len]; omega)) (by omega))) fun a hF => ?_
                refine dw_call hF rfl (wanted_none rfl) rfl rfl Try.ok18 rfl (Evs.cons (ev_const _ _) (Evs.cons (hF.t rfl) Evs.nil)) (fun w hx => times2) fun a hF => ?_
                refine dw_gv hF rfl (wanted_none rfl) rfl rfl (fun w hx => gv_move rfl (hF.t rfl)) fun a hF => ?_
                refine dw_gv hF rfl (wanted_none rfl) rfl rfl (fun w hx => gv_move rfl (hF.t rfl)) fun a hF => ?_
                refine dw_gv hF rfl (wanted_none rfl) rfl rfl (fun w hx => gv_nadd (n := 1) rfl (hF.t rfl) rfl (by omega)) fun a hF => ?_
                refine dw_gv hF rfl (wanted_none rfl) rfl rfl (fun w hx => gv_nrem (n := 4) rfl (hF.t rfl) rfl (by omega)) fun a hF => ?_
                refine dw_gv hF rfl (wanted_none rfl) rfl rfl (fun w hx => gv_nadd rfl (hF.t rfl) (hF.t rfl) (by omega)) fun a hF => ?_
                refine dw_gv hF rfl (wanted_none rfl) rfl rfl (fun w hx => gv_indexArr rfl Try.underlying54 Try.sz3 (hF.t rfl) (hF.t rfl) (by omega)) fun a hF => ?_
                refine dw_gv hF rfl (wanted_none rfl) rfl rfl (fun w hx => gv_load rfl Try.underlying3 rfl (hF.t rfl) (cell_ix ((hS.ext hx).cellM (k := 1) rfl (i - i % 4 + (i + 1) % 4) (by rw [uu_len]; omega)) (by omega))) fun a hF => ?_
                refine dw_call hF rfl (wanted_none rfl) rfl rfl Try.ok18 rfl (Evs.cons (ev_const _ _) (Evs.cons (hF.t rfl) Evs.nil)) (fun w hx => times3) fun a hF => ?_
                refine dw_gv hF rfl (wanted_none rfl) rfl rfl (fun w hx => gv_x8 rfl (hF.t rfl) (hF.t rfl)) fun a hF => ?_
                refine dw_gv hF rfl (wanted_none rfl) rfl rfl (fun w hx => gv_move rfl (hF.t rfl)) fun a hF => ?_
                refine dw_gv hF rfl (wanted_none rfl) rfl rfl (fun w hx => gv_move rfl (hF.t rfl)) fun a hF => ?_
                refine dw_gv hF rfl (wanted_none rfl) rfl rfl (fun w hx => gv_nadd (n := 2) rfl (hF.t rfl) rfl (by omega)) fun a hF => ?_
                refine dw_gv hF rfl (wanted_none rfl) rfl rfl (fun w hx => gv_nrem (n := 4) rfl (hF.t rfl) rfl (by omega)) fun a hF => ?_
                refine dw_gv hF rfl (wanted_none rfl) rfl rfl (fun w hx => gv_nadd rfl (hF.t rfl) (hF.t rfl) (by omega)) fun a hF => ?_
                refine dw_gv hF rfl (wanted_none rfl) rfl rfl (fun w hx => gv_indexArr rfl Try.underlying54 Try.sz3 (hF.t rfl) (hF.t rfl) (by omega)) fun a hF => ?_
                refine dw_gv hF rfl (wanted_none rfl) rfl rfl (fun w hx => gv_load rfl Try.underlying3 rfl (hF.t rfl) (cell_ix ((hS.ext hx).cellM (k := 1) rfl (i - i % 4 + (i + 2) % 4) (by rw [uu_len]; omega)) (by omega))) fun a hF => ?_
                refine dw_gv hF rfl (wanted_none rfl) rfl rfl (fun w hx => gv_x8 rfl (hF.t rfl) (hF.t rfl)) fun a hF => ?_
                refine dw_gv hF rfl (wanted_none rfl) rfl rfl (fun w hx => gv_move rfl (hF.t rfl)) fun a hF => ?_
                refine dw_gv hF rfl (wanted_none rfl) rfl rfl (fun w hx => gv_move rfl (hF.t rfl)) fun a hF => ?_
                refine dw_gv hF rfl (wanted_none rfl) rfl rfl (fun w hx => gv_nadd (n := 3) rfl (hF.t rfl) rfl (by omega)) fun a hF => ?_
                refine dw_gv hF rfl (wanted_none rfl) rfl rfl (fun w hx => gv_nrem (n := 4) rfl (hF.t rfl) rfl (by omega)) fun a hF => ?_
                refine dw_gv hF rfl (wanted_none rfl) rfl rfl (fun w hx => gv_nadd rfl (hF.t rfl) (hF.t rfl) (by omega)) fun a hF => ?_
                refine dw_gv hF rfl (wanted_none rfl) rfl rfl (fun w hx => gv_indexArr rfl Try.underlying54 Try.sz3 (hF.t rfl) (hF.t rfl) (by omega)) fun a hF => ?_
                refine dw_gv hF rfl (wanted_none rfl) rfl rfl (fun w hx => gv_load rfl Try.underlying3 rfl (hF.t rfl) (cell_ix ((hS.ext hx).cellM (k := 1) rfl (i - i % 4 + (i + 3) % 4) (by rw [uu_len]; omega)) (by omega))) fun a hF => ?_
                refine dw_gv hF rfl (wanted_none rfl) rfl rfl (fun w hx => gv_x8 rfl (hF.t rfl) (hF.t rfl)) fun a hF => ?_
                refine dw_gv hF rfl (wanted_none rfl) rfl rfl (fun w hx => gv_indexArr rfl Try.underlying54 Try.sz3 (hF.t rfl) (hF.t rfl) (by omega)) fun a hF => ?_
                refine dw_nil fun a w hA hx => ?_
                replace hF := hA _ hF
                replace hS := hS.ext hx
                clear hA hx
                refine run_stp (by kernel_rfl) rfl (stp_storeM (i) hF (wanted_none rfl) rfl rfl Try.sz3 (hF.t rfl) (by omega) (hF.t rfl) hS (k := 0) rfl (by rw [List.length_set, vv_len]; omega) fun w hS => ?_)
                simp only [List.set_cons_zero, List.set_set] at hS
                refine run_done (by decide) ?_
                refine then_normal ?_
                exact ⟨hF.sub ⟨rfl, rfl, rfl, rfl, rfl, rfl, rfl, rfl, rfl, rfl, trivial⟩, by rw [mxv, if_pos (by omega)]; exact hS⟩
              ·
                refine wp_skip ?_
                refine then_normal ?_
                exact ⟨hF.sub ⟨rfl, rfl, rfl, rfl, rfl, rfl, rfl, rfl, rfl, rfl, trivial⟩, by rw [mxv, if_neg (by omega)]; exact hS⟩
            · rintro a w ⟨hF, hS⟩
              -- region 38 (ref.go:77)
              refine Fw.wp_region_draw (by kernel_rfl) fun w hx => ?_
              replace hS := hS.ext hx
              clear hx
              refine run_head0 (n := 16) _ hF (by kernel_rfl) rfl ?_
              refine dw_gv hF rfl (wanted_none rfl) rfl rfl (fun w hx => gv_move rfl (hF.t rfl)) fun a hF => ?_
              refine dw_gv hF rfl (wanted_none rfl) rfl rfl (fun w hx => gv_move rfl (hF.t rfl)) fun a hF => ?_
              refine dw_gv hF rfl (wanted_none rfl) rfl rfl (fun w hx => gv_indexArr rfl Try.underlying54 Try.sz3 (hF.t rfl) (hF.t rfl) (by omega)) fun a hF => ?_
              refine dw_gv hF rfl (wanted_none rfl) rfl rfl (fun w hx => gv_load rfl Try.underlying3 rfl (hF.t rfl) (cell_ix ((hS.ext hx).cellM (k := 0) rfl (i) (by rw [List.length_set, vv_len]; omega)) (by omega))) fun a hF => ?_
              refine dw_gv hF rfl (wanted_none rfl) rfl rfl (fun w hx => gv_move rfl (hF.t rfl)) fun a hF => ?_
              refine dw_gv hF rfl (wanted_none rfl) rfl rfl (fun w hx => gv_nmul (m := 4) rfl rfl (hF.t rfl) (by omega)) fun a hF => ?_
              refine dw_gv hF rfl (wanted_none rfl) rfl rfl (fun w hx => gv_move rfl (hF.t rfl)) fun a hF => ?_
              refine dw_gv hF rfl (wanted_none rfl) rfl rfl (fun w hx => gv_nquo (n := 4) rfl (hF.t rfl) rfl (by omega) (by omega)) fun a hF => ?_
              refine dw_gv hF rfl (wanted_none rfl) rfl rfl (fun w hx => gv_nadd rfl (hF.t rfl) (hF.t rfl) (by omega)) fun a hF => ?_
              refine dw_gv hF rfl (wanted_none rfl) rfl rfl (fun w hx => gv_move rfl (hF.t rfl)) fun a hF => ?_
              refine dw_gv hF rfl (wanted_none rfl) rfl rfl (fun w hx => gv_nrem (n := 4) rfl (hF.t rfl) rfl (by omega)) fun a hF => ?_
              refine dw_gv hF rfl (wanted_none rfl) rfl rfl (fun w hx => gv_indexArr rfl Try.underlying52 Try.sz51 (hF.t rfl) (hF.t rfl) (by omega)) fun a hF => ?_
              refine dw_gv hF rfl (wanted_none rfl) rfl rfl (fun w hx => gv_indexArr rfl Try.underlying51 Try.sz3 (hF.t rfl) (hF.t rfl) (by omega)) fun a hF => ?_
              refine dw_gv hF rfl (wanted_none rfl) rfl rfl (fun w hx => gv_load rfl Try.underlying3 rfl (hF.t rfl) (cell_ix ((hS.ext hx).cellM (k := 3) rfl ((4 * (r + 1) + i / 4) * 4 + i % 4) (by rw [wks_len]; omega)) (by omega))) fun a hF => ?_
              refine dw_gv hF rfl (wanted_none rfl) rfl rfl (fun w hx => gv_x8 rfl (hF.t rfl) (hF.t rfl)) fun a hF => ?_
              refine dw_gv hF rfl (wanted_none rfl) rfl rfl (fun w hx => gv_indexArr rfl Try.underlying54 Try.sz3 (hF.t rfl) (hF.t rfl) (by omega)) fun a hF => ?_
              refine dw_nil fun a w hA hx => ?_
              replace hF := hA _ hF
              replace hS := hS.ext hx
              clear hA hx
              refine run_stp (by kernel_rfl) rfl (stp_storeM (i) hF (wanted_none rfl) rfl rfl Try.sz3 (hF.t rfl) (by omega) (hF.t rfl) hS (k := 0) rfl (by rw [List.length_set, vv_len]; omega) fun w hS => ?_)
              simp only [List.set_cons_zero, List.set_set] at hS
              rw [set_get (by rw [vv_len]; omega), ← vv_succ] at hS
              refine run_done (by decide) ?_
              refine block_normal ?_
              refine then_normal (hKq38 _ _ ?_)
              -- region 33 (ref.go:71)
              refine wp_region_lit ?_
              refine wpList_stp (stp_gv hF (wanted_none rfl) rfl rfl (gv_move rfl (hF.t rfl)) fun a hF => ?_)
              refine wpList_stp (stp_gv hF (wanted_none rfl) rfl rfl (gv_nadd (n := 1) rfl (hF.t rfl) rfl (by omega)) fun a hF => ?_)
              refine wpList_stp (stp_gv hF (wanted_none rfl) rfl rfl (gv_assign rfl (hF.t rfl)) fun a hF => ?_)
              refine wpList_nil ?_
              refine then_normal ?_
              exact ⟨q - 1, by omega, i + 1, by omega, by omega, hF.sub ⟨rfl, rfl, rfl, rfl, rfl, rfl, rfl, rfl, rfl, rfl, trivial⟩, hS⟩
          ·
            refine wp_exit ?_
            refine then_exit ?_
            refine then_exit ?_
            refine block_exit ?_
            refine then_normal (hKq34 _ _ ?_)
            -- region 39 (ref.go:79)
            refine wp_region_lit ?_
            refine wpList_stp (stp_gv hF (wanted_none rfl) rfl rfl (gv_loadAll rfl Try.underlying54 rfl (Try.sz54.trans (congrArg some (by simp [vv_len]))) (hF.t rfl) hS (k := 0) rfl) fun a hF => ?_)
            refine wpList_stp (stp_storeAll hF (wanted_none rfl) rfl rfl (Try.sz54.trans (congrArg some (by simp [vv_len]))) (hF.t rfl) (hF.t rfl) (one_M _) hS (k := 2) rfl (by simp [vv_len, rS_len]) fun w hS => ?_)
            refine wpList_nil ?_
            refine block_normal ?_
            refine then_normal (hKq27 _ _ ?_)
            -- region 25 (ref.go:66)
            refine wp_region_lit ?_
            refine wpList_stp (stp_gv hF (wanted_none rfl) rfl rfl (gv_move rfl (hF.t rfl)) fun a hF => ?_)
            refine wpList_stp (stp_gv hF (wanted_none rfl) rfl rfl (gv_nadd (n := 1) rfl (hF.t rfl) rfl (by omega)) fun a hF => ?_)
            refine wpList_stp (stp_gv hF (wanted_none rfl) rfl rfl (gv_assign rfl (hF.t rfl)) fun a hF => ?_)
            refine wpList_nil ?_
            refine then_normal ?_
            obtain rfl : i = 16 := by omega
            exact ⟨n - 1, by omega, r + 1, by omega, by omega, hF.sub ⟨rfl, rfl, rfl, rfl, rfl, rfl, rfl, trivial⟩, by rw [rS_succ]; exact (hS.drop rfl).drop rfl⟩
      ·
        refine wp_exit ?_
        refine then_exit ?_
        refine then_exit ?_
        refine block_exit ?_
        refine then_normal (hKq23 _ _ ?_)
        refine wp_seq_k fun Kq42 hKq42 => ?_
        obtain rfl : r = 10 := by omega
        -- region 40 (ref.go:81)
        refine wp_region_lit ?_
        refine wpList_stp (stp_alloc hF (wanted_none rfl) rfl rfl rfl Try.zv23 rfl hS fun out a w hF hS => ?_)
        refine wpList_nil ?_
        refine then_normal (hKq42 _ _ ?_)
        refine wp_seq_k fun Kq43 hKq43 => ?_
        refine wp_seq_k fun Kq44 hKq44 => ?_
        -- region 41 (ref.go:82)
        refine wp_region_lit ?_
        refine wpList_stp (stp_gv hF (wanted_none rfl) rfl rfl (gv_assign rfl (ev_const _ _)) fun a hF => ?_)
        refine wpList_nil ?_
        refine then_normal (hKq44 _ _ ?_)
        refine wp_block ?_
        refine wp_loop_n (fun n a w => ∃ i, i ≤ 16 ∧ n = 16 - i ∧ Fr 214 a [(0, .slice (some ⟨bk, ok, none⟩) 16 ck), (3, .pointer (some ⟨bb, 0, none⟩)), (4, .pointer (some ⟨res, 0, none⟩)), (5, .pointer (some ⟨t, 0, none⟩)), (6, .pointer (some ⟨ww, 0, none⟩)), (10, .pointer (some ⟨ss, 0, none⟩)), (18, .pointer (some ⟨out, 0, none⟩)), (19, vI i)] ∧ St w0 w [⟨true, some out, blkB 23 (o16 (rS (wks kl) bl 10) i)⟩, ⟨true, some ss, blkM 54 (rS (wks kl) bl 10)⟩, ⟨true, some ww, blkM 52 (wks kl)⟩, ⟨true, some t, blkM 49 swapL⟩, ⟨true, some res, blkB 23 (List.replicate 16 0)⟩, ⟨true, some bb, blkB 23 bl⟩]) 16 ⟨0, by omega, by omega, hF.sub ⟨rfl, rfl, rfl, rfl, rfl, rfl, rfl, rfl, trivial⟩, hS⟩ ?_
        rintro n a w ⟨i, hi, hn, hF, hS⟩
        refine wp_seq_k fun Kq45 hKq45 => ?_
        refine wp_seq_k fun Kq46 hKq46 => ?_
        -- region 42 (ref.go:82)
        refine wp_region_lit ?_
        refine wpList_stp (stp_gv hF (wanted_none rfl) rfl rfl (gv_move rfl (hF.t rfl)) fun a hF => ?_)
        refine wpList_stp (stp_gv hF (wanted_none rfl) rfl rfl (gv_lss rfl (hF.t rfl) (ev_const _ _)) fun a hF => ?_)
        refine wpList_nil ?_
        refine then_normal (hKq46 _ _ ?_)
        refine cond_dec (hF.t rfl) (fun hc204 => ?_) (fun hc204 => ?_)
        ·
          refine wp_skip ?_
          refine then_normal (hKq45 _ _ ?_)
          refine wp_seq_k fun Kq47 hKq47 => ?_
          refine wp_block ?_
          -- region 44 (ref.go:83)
          refine wp_region_lit ?_
          refine wpList_stp (stp_gv hF (wanted_none rfl) rfl rfl (gv_move rfl (hF.t rfl)) fun a hF => ?_)
          refine wpList_stp (stp_gv hF (wanted_none rfl) rfl rfl (gv_move rfl (hF.t rfl)) fun a hF => ?_)
          refine wpList_stp (stp_gv hF (wanted_none rfl) rfl rfl (gv_indexArr rfl Try.underlying54 Try.sz3 (hF.t rfl) (hF.t rfl) (by omega)) fun a hF => ?_)
          refine wpList_stp (stp_gv hF (wanted_none rfl) rfl rfl (gv_load rfl Try.underlying3 rfl (hF.t rfl) (cell_ix (hS.cellM (k := 1) rfl (i) (by rw [rS_len]; omega)) (by omega))) fun a hF => ?_)
          refine wpList_stp (stp_gv hF (wanted_none rfl) rfl rfl (gv_conv_n_b rfl Try.underlying3 Try.underlying5 (hF.t rfl)) fun a hF => ?_)
          refine wpList_stp (stp_gv hF (wanted_none rfl) rfl rfl (gv_indexArr rfl Try.underlying23 Try.sz5 (hF.t rfl) (hF.t rfl) (by omega)) fun a hF => ?_)
          refine wpList_stp (stp_storeB (i) hF (wanted_none rfl) rfl rfl Try.sz5 (hF.t rfl) (by omega) (hF.t rfl) hS (k := 0) rfl (by rw [o16_len]; omega) fun w hS => ?_)
          refine wpList_nil ?_
          refine block_normal ?_
          refine then_normal (hKq47 _ _ ?_)
          -- region 43 (ref.go:82)
          refine wp_region_lit ?_
          refine wpList_stp (stp_gv hF (wanted_none rfl) rfl rfl (gv_move rfl (hF.t rfl)) fun a hF => ?_)
          refine wpList_stp (stp_gv hF (wanted_none rfl) rfl rfl (gv_nadd (n := 1) rfl (hF.t rfl) rfl (by omega)) fun a hF => ?_)
          refine wpList_stp (stp_gv hF (wanted_none rfl) rfl rfl (gv_assign rfl (hF.t rfl)) fun a hF => ?_)
          refine wpList_nil ?_
          refine then_normal ?_
          exact ⟨n - 1, by omega, i + 1, by omega, by omega, hF.sub ⟨rfl, rfl, rfl, rfl, rfl, rfl, rfl, rfl, trivial⟩, hS⟩
        ·
          refine wp_exit ?_
          refine then_exit ?_
          refine then_exit ?_
          refine block_exit ?_
          refine then_normal (hKq43 _ _ ?_)
          refine wp_seq_k fun Kq48 hKq48 => ?_
          -- region 45 (ref.go:85)
          refine wp_region_lit ?_
          refine wpList_stp (stp_gv hF (wanted_none rfl) rfl rfl (gv_loadAll rfl Try.underlying23 rfl (Try.sz23.trans (congrArg some (by simp [o16_len]))) (hF.t rfl) hS (k := 0) rfl) fun a hF => ?_)
          refine wpList_stp (stp_storeAll hF (wanted_none rfl) rfl rfl (Try.sz23.trans (congrArg some (by simp [o16_len]))) (hF.t rfl) (hF.t rfl) (one_B _) hS (k := 4) rfl (by simp [o16_len]) fun w hS => ?_)
          refine wpList_nil ?_
          refine then_normal (hKq48 _ _ ?_)
          refine wp_ret ?_
          obtain rfl : i = 16 := by omega
          refine retCell (fn := Try.f12) hF rfl Try.underlying23 rfl (Try.sz23.trans (congrArg some (by simp [o16_len]))) rfl hS (k := 4) rfl ⟨rfl, hS.toExt (by simp)⟩


end Go.Proofs.Ytfhalnobaeogkaa

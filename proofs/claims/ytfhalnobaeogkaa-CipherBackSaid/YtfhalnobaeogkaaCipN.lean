/- What is proved: cipher.New at keys and counters of another length; Block and Turn of a stream that is none. -/
import Derived.Test.YtfhalnobaeogkaaProg
import Derived.Test.YtfhalnobaeogkaaFwSep
import Derived.KernelRfl
import Derived.Test.YtfhalnobaeogkaaLeaf
import Derived.Test.YtfhalnobaeogkaaCip
set_option linter.unusedVariables false
set_option linter.unusedSimpArgs false
namespace Go.Proofs.Ytfhalnobaeogkaa
open Go Go.RowKit Go.Fw



theorem new_bad1 {kv cv : Value} {kl cl : List UInt8} {w0 : World} (hkv : Rd w0 kv (kl.map vB)) (hcv : Rd w0 cv (cl.map vB)) (hk : kl.length ≠ 16) :
    Calls Try.prog 9 #[kv, cv] w0 fun e w' => e = .returned (.tuple #[.pointer none, .int .i64 2]) ∧ Ext w0 w' := by
  obtain ⟨Ak, ck, rfl, hk1, hk2, hkc⟩ := hkv.isB
  obtain ⟨Ac, cc, rfl, hc1, hc2, hcc⟩ := hcv.isB
  refine calls_start 113 Try.func9 rfl Try.ntmps9 rfl fun a hF => ?_
  refine wp_seq_k fun Kq1 hKq1 => ?_
  -- region 0 (cipher.go:44)
  refine wp_region_lit ?_
  refine wpList_stp (stp_gv hF (wanted_none rfl) rfl rfl (gv_assign rfl (ev_const _ _)) fun a hF => ?_)
  refine wpList_stp (stp_gv hF (wanted_none rfl) rfl rfl (gv_assign rfl (ev_const _ _)) fun a hF => ?_)
  refine wpList_nil ?_
  refine then_normal (hKq1 _ _ ?_)
  refine wp_seq_k fun Kq2 hKq2 => ?_
  refine wp_seq_k fun Kq3 hKq3 => ?_
  -- region 1 (cipher.go:45)
  refine wp_region_lit ?_
  refine wpList_stp (stp_gv hF (wanted_none rfl) rfl rfl (gv_move rfl (hF.t rfl)) fun a hF => ?_)
  refine wpList_stp (stp_gv hF (wanted_none rfl) rfl rfl (gv_len rfl Try.underlying22 (hF.t rfl)) fun a hF => ?_)
  refine wpList_stp (stp_gv hF (wanted_none rfl) rfl rfl (gv_neqT rfl (hF.t rfl) (ev_const _ _) (by omega)) fun a hF => ?_)
  refine wpList_stp (stp_gv hF (wanted_none rfl) rfl rfl (gv_move rfl (hF.t rfl)) fun a hF => ?_)
  refine wpList_stp (stp_skip hF (unwanted_of hF rfl rfl (rfl) rfl) rfl rfl fun a hF => ?_)
  refine wpList_stp (stp_skip hF (unwanted_of hF rfl rfl (rfl) rfl) rfl rfl fun a hF => ?_)
  refine wpList_stp (stp_skip hF (unwanted_of hF rfl rfl (rfl) rfl) rfl rfl fun a hF => ?_)
  refine wpList_stp (stp_gv hF (wanted_none rfl) rfl rfl (gv_pickT rfl (hF.t rfl) (ev_const _ _)) fun a hF => ?_)
  refine wpList_nil ?_
  refine then_normal (hKq3 _ _ ?_)
  refine wp_cond_true (hF.t rfl) ?_
  refine wp_seq_k fun Kq4 hKq4 => ?_
  -- region 2 (cipher.go:46)
  refine wp_region_lit ?_
  refine wpList_stp (stp_gv hF (wanted_none rfl) rfl rfl (gv_assign rfl (ev_const _ _)) fun a hF => ?_)
  refine wpList_stp (stp_gv hF (wanted_none rfl) rfl rfl (gv_assign rfl (ev_const _ _)) fun a hF => ?_)
  refine wpList_nil ?_
  refine then_normal (hKq4 _ _ ?_)
  refine wp_ret ?_
  refine then_ret ?_
  refine ret2 (fn := Try.f9) (t := 4) (u := 5) hF rfl rfl rfl ?_
  exact ⟨rfl, Ext.refl _⟩

theorem new_bad2 {kv cv : Value} {kl cl : List UInt8} {w0 : World} (hkv : Rd w0 kv (kl.map vB)) (hcv : Rd w0 cv (cl.map vB)) (hk : kl.length = 16) (hc : cl.length ≠ 16) :
    Calls Try.prog 9 #[kv, cv] w0 fun e w' => e = .returned (.tuple #[.pointer none, .int .i64 2]) ∧ Ext w0 w' := by
  obtain ⟨Ak, ck, rfl, hk1, hk2, hkc⟩ := hkv.isB
  obtain ⟨Ac, cc, rfl, hc1, hc2, hcc⟩ := hcv.isB
  refine calls_start 113 Try.func9 rfl Try.ntmps9 rfl fun a hF => ?_
  refine wp_seq_k fun Kq1 hKq1 => ?_
  -- region 0 (cipher.go:44)
  refine wp_region_lit ?_
  refine wpList_stp (stp_gv hF (wanted_none rfl) rfl rfl (gv_assign rfl (ev_const _ _)) fun a hF => ?_)
  refine wpList_stp (stp_gv hF (wanted_none rfl) rfl rfl (gv_assign rfl (ev_const _ _)) fun a hF => ?_)
  refine wpList_nil ?_
  refine then_normal (hKq1 _ _ ?_)
  refine wp_seq_k fun Kq2 hKq2 => ?_
  refine wp_seq_k fun Kq3 hKq3 => ?_
  -- region 1 (cipher.go:45)
  refine wp_region_lit ?_
  refine wpList_stp (stp_gv hF (wanted_none rfl) rfl rfl (gv_move rfl (hF.t rfl)) fun a hF => ?_)
  refine wpList_stp (stp_gv hF (wanted_none rfl) rfl rfl (gv_len rfl Try.underlying22 (hF.t rfl)) fun a hF => ?_)
  refine wpList_stp (stp_gv hF (wanted_none rfl) rfl rfl (gv_neqF rfl (hF.t rfl) (ev_const _ _) (by omega)) fun a hF => ?_)
  refine wpList_stp (stp_gv hF (wanted_none rfl) rfl rfl (gv_move rfl (hF.t rfl)) fun a hF => ?_)
  refine wpList_stp (stp_gv hF (wanted_of hF rfl rfl (rfl)) rfl rfl (gv_move rfl (hF.t rfl)) fun a hF => ?_)
  refine wpList_stp (stp_gv hF (wanted_of hF rfl rfl (rfl)) rfl rfl (gv_len rfl Try.underlying22 (hF.t rfl)) fun a hF => ?_)
  refine wpList_stp (stp_gv hF (wanted_of hF rfl rfl (rfl)) rfl rfl (gv_neqT rfl (hF.t rfl) (ev_const _ _) (by omega)) fun a hF => ?_)
  refine wpList_stp (stp_gv hF (wanted_none rfl) rfl rfl (gv_pickF rfl (hF.t rfl) (hF.t rfl)) fun a hF => ?_)
  refine wpList_nil ?_
  refine then_normal (hKq3 _ _ ?_)
  refine wp_cond_true (hF.t rfl) ?_
  refine wp_seq_k fun Kq4 hKq4 => ?_
  -- region 2 (cipher.go:46)
  refine wp_region_lit ?_
  refine wpList_stp (stp_gv hF (wanted_none rfl) rfl rfl (gv_assign rfl (ev_const _ _)) fun a hF => ?_)
  refine wpList_stp (stp_gv hF (wanted_none rfl) rfl rfl (gv_assign rfl (ev_const _ _)) fun a hF => ?_)
  refine wpList_nil ?_
  refine then_normal (hKq4 _ _ ?_)
  refine wp_ret ?_
  refine then_ret ?_
  refine ret2 (fn := Try.f9) (t := 4) (u := 5) hF rfl rfl rfl ?_
  exact ⟨rfl, Ext.refl _⟩

theorem block_nil {bl : List UInt8} {w0 : World} (hb : bl.length = 16) :
    Calls Try.prog 10 #[.pointer none, .agg (bl.map vB).toArray] w0 fun e w' => e = .returned (.agg ((List.replicate 16 (0 : UInt8)).map vB).toArray) ∧ Ext w0 w' := by
  refine calls_start 148 Try.func10 rfl Try.ntmps10 rfl fun a hF => ?_
  have hS := St.refl w0
  refine wp_seq_k fun Kq1 hKq1 => ?_
  -- region 0 (cipher.go:68)
  refine wp_region_lit ?_
  refine wpList_stp (stp_box hF (wanted_none rfl) rfl rfl rfl (hF.t rfl) rfl hS fun bb a w hF hS => ?_)
  refine wpList_stp (stp_alloc hF (wanted_none rfl) rfl rfl rfl Try.zv23 rfl hS fun res a w hF hS => ?_)
  refine wpList_nil ?_
  refine then_normal (hKq1 _ _ ?_)
  refine wp_seq_k fun Kq2 hKq2 => ?_
  refine wp_seq_k fun Kq3 hKq3 => ?_
  -- region 1 (cipher.go:69)
  refine wp_region_lit ?_
  refine wpList_stp (stp_gv hF (wanted_none rfl) rfl rfl (gv_move rfl (hF.t rfl)) fun a hF => ?_)
  refine wpList_stp (stp_gv hF (wanted_none rfl) rfl rfl (gv_eqlNil rfl Try.underlying25 (hF.t rfl) (ev_const _ _)) fun a hF => ?_)
  refine wpList_nil ?_
  refine then_normal (hKq3 _ _ ?_)
  refine wp_cond_true (hF.t rfl) ?_
  refine wp_seq_k fun Kq4 hKq4 => ?_
  -- region 2 (cipher.go:70)
  refine wp_region_lit ?_
  refine wpList_stp (stp_gv hF (wanted_none rfl) rfl rfl (gv_build (pl := []) rfl rfl (run_buildArr Try.underlying23 Try.sz5 Try.zv23 rfl rfl)) fun a hF => ?_)
  refine wpList_stp (stp_storeAll hF (wanted_none rfl) rfl rfl (Try.sz23.trans (congrArg some (by rfl))) (hF.t rfl) (hF.t rfl) (one_B _) hS (k := 0) rfl (by rfl) fun w hS => ?_)
  refine wpList_nil ?_
  refine then_normal (hKq4 _ _ ?_)
  refine wp_ret ?_
  refine then_ret ?_
  refine retCell (fn := Try.f10) hF rfl Try.underlying23 rfl (Try.sz23.trans (congrArg some (by rfl))) rfl hS (k := 0) rfl ⟨rfl, hS.toExt (by simp)⟩

theorem turn_nil {bv : Value} {w0 : World} :
    Calls Try.prog 11 #[.pointer none, bv] w0 fun e w' => e = .returned (.slice none 0 0) ∧ Ext w0 w' := by
  refine calls_start 77 Try.func11 rfl Try.ntmps11 rfl fun a hF => ?_
  refine wp_seq_k fun Kq1 hKq1 => ?_
  -- region 0 (cipher.go:102)
  refine wp_region_lit ?_
  refine wpList_stp (stp_gv hF (wanted_none rfl) rfl rfl (gv_assign rfl (ev_const _ _)) fun a hF => ?_)
  refine wpList_nil ?_
  refine then_normal (hKq1 _ _ ?_)
  refine wp_seq_k fun Kq2 hKq2 => ?_
  refine wp_seq_k fun Kq3 hKq3 => ?_
  -- region 1 (cipher.go:103)
  refine wp_region_lit ?_
  refine wpList_stp (stp_gv hF (wanted_none rfl) rfl rfl (gv_move rfl (hF.t rfl)) fun a hF => ?_)
  refine wpList_stp (stp_gv hF (wanted_none rfl) rfl rfl (gv_eqlNil rfl Try.underlying25 (hF.t rfl) (ev_const _ _)) fun a hF => ?_)
  refine wpList_nil ?_
  refine then_normal (hKq3 _ _ ?_)
  refine wp_cond_true (hF.t rfl) ?_
  refine wp_seq_k fun Kq4 hKq4 => ?_
  -- region 2 (cipher.go:104)
  refine wp_region_lit ?_
  refine wpList_stp (stp_gv hF (wanted_none rfl) rfl rfl (gv_assign rfl (ev_const _ _)) fun a hF => ?_)
  refine wpList_nil ?_
  refine then_normal (hKq4 _ _ ?_)
  refine wp_ret ?_
  refine then_ret ?_
  refine ret1 (fn := Try.f11) (t := 4) hF rfl rfl ?_
  exact ⟨rfl, Ext.refl _⟩


end Go.Proofs.Ytfhalnobaeogkaa

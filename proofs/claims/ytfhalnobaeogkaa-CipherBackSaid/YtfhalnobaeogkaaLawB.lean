/- What is proved: CipherBlocks returns true. -/
import Derived.Test.YtfhalnobaeogkaaProg
import Derived.Test.YtfhalnobaeogkaaFwSep
import Derived.KernelRfl
import Derived.Test.YtfhalnobaeogkaaFwStr
import Derived.Test.YtfhalnobaeogkaaLeaf
import Derived.Test.YtfhalnobaeogkaaCip
import Derived.Test.YtfhalnobaeogkaaCipN
import Derived.Test.YtfhalnobaeogkaaRef
import Derived.Test.YtfhalnobaeogkaaRef2
import Derived.Test.YtfhalnobaeogkaaRefB
import Derived.Test.YtfhalnobaeogkaaRefY
import Derived.Test.YtfhalnobaeogkaaFit
import Derived.Test.YtfhalnobaeogkaaSame
import Derived.Test.YtfhalnobaeogkaaSame2
set_option linter.unusedVariables false
set_option linter.unusedSimpArgs false
namespace Go.Proofs.Ytfhalnobaeogkaa
open Go Go.RowKit Go.Fw

theorem Try.ok8 : CallOk Try.prog 8 := ⟨_, Try.func8, by kernel_rfl, by kernel_rfl⟩


theorem Try.eqg23 : Try.prog.eqGuardType Try.prog.depth 23 = false := by kernel_rfl
theorem new_bad {kv cv : Value} {kl cl : List UInt8} {w0 : World} (hkv : Rd w0 kv (kl.map vB)) (hcv : Rd w0 cv (cl.map vB)) (h : ¬ (kl.length = 16 ∧ cl.length = 16)) : Calls Try.prog 9 #[kv, cv] w0 fun e w' => e = .returned (.tuple #[.pointer none, .int .i64 2]) ∧ Ext w0 w' := by
  by_cases hk : kl.length = 16
  · exact new_bad2 hkv hcv hk fun hc => h ⟨hk, hc⟩
  · exact new_bad1 hkv hcv hk


theorem blocks_bad {kv cv : Value} {kl cl bl : List UInt8} {w0 : World} (hkv : Rd w0 kv (kl.map vB)) (hcv : Rd w0 cv (cl.map vB)) (hb : bl.length = 16) (hne : ¬ (kl.length = 16 ∧ cl.length = 16)) :
    Calls Try.prog 3 #[kv, cv, .agg (bl.map vB).toArray] w0 fun e w' => e = .returned (.bool true) ∧ Ext w0 w' := by
  obtain ⟨Ak, ck, rfl, hk1, hk2, hkc⟩ := hkv.isB
  obtain ⟨Ac, cc, rfl, hc1, hc2, hcc⟩ := hcv.isB
  clear hkc hcc
  refine calls_start 64 Try.func3 rfl Try.ntmps3 rfl fun a hF => ?_
  have hS := St.refl w0
  refine wp_seq_k fun Kq1 hKq1 => ?_
  -- region 0 (law.go:18)
  refine wp_region_lit ?_
  refine wpList_stp (stp_box hF (wanted_none rfl) rfl rfl rfl (hF.t rfl) rfl hS fun bb a w hF hS => ?_)
  refine wpList_stp (stp_gv hF (wanted_none rfl) rfl rfl (gv_assign rfl (ev_const _ _)) fun a hF => ?_)
  refine wpList_nil ?_
  refine then_normal (hKq1 _ _ ?_)
  refine wp_seq_k fun Kq2 hKq2 => ?_
  refine wp_seq_k fun Kq3 hKq3 => ?_
  -- region 1 (law.go:19)
  refine wp_region_lit ?_
  refine wpList_stp (stp_call hF (wanted_none rfl) rfl rfl Try.ok8 rfl Evs.nil (fit_ok) fun e w h => ?_)
  obtain ⟨rfl, hx⟩ := h
  refine ⟨_, rfl, fun a hF => ?_⟩
  replace hS := hS.ext hx
  clear hx
  refine wpList_stp (stp_gv hF (wanted_none rfl) rfl rfl (gv_not rfl (hF.t rfl)) fun a hF => ?_)
  refine wpList_nil ?_
  refine then_normal (hKq3 _ _ ?_)
  refine wp_cond_false (hF.t rfl) ?_
  refine wp_skip ?_
  refine then_normal (hKq2 _ _ ?_)
  refine wp_seq_k fun Kq4 hKq4 => ?_
  refine wp_seq_k fun Kq5 hKq5 => ?_
  -- region 3 (law.go:22)
  refine wp_region_lit ?_
  refine wpList_stp (stp_gv hF (wanted_none rfl) rfl rfl (gv_move rfl (hF.t rfl)) fun a hF => ?_)
  refine wpList_stp (stp_gv hF (wanted_none rfl) rfl rfl (gv_len rfl Try.underlying22 (hF.t rfl)) fun a hF => ?_)
  refine wpList_stp (stp_gv hF (wanted_none rfl) rfl rfl (gv_gtr rfl (hF.t rfl) (ev_const _ _)) fun a hF => ?_)
  refine wpList_stp (stp_gv hF (wanted_none rfl) rfl rfl (gv_move rfl (hF.t rfl)) fun a hF => ?_)
  refine wpList_stp (stp_gvG' hF rfl rfl rfl rfl rfl (fun hg => gv_move rfl (hF.t rfl)) fun a hF => ?_)
  refine wpList_stp (stp_gvG' hF rfl rfl rfl rfl rfl (fun hg => gv_len rfl Try.underlying22 ((hF.t rfl).trans (if_neg hg))) fun a hF => ?_)
  refine wpList_stp (stp_gvG' hF rfl rfl rfl rfl rfl (fun hg => gv_gtr rfl ((hF.t rfl).trans (if_neg hg)) (ev_const _ _)) fun a hF => ?_)
  refine wpList_stp (stp_gv hF (wanted_none rfl) rfl rfl (gv_pickOr rfl (hF.t rfl) (ev_const _ _) (hF.t rfl)) fun a hF => ?_)
  refine wpList_nil ?_
  refine then_normal (hKq5 _ _ ?_)
  refine cond_dec (hF.t rfl) (fun h18 => ?_) (fun h18 => ?_)
  ·
    refine wp_seq_k fun Kq6 hKq6 => ?_
    -- region 4 (law.go:23)
    refine wp_region_lit ?_
    refine wpList_stp (stp_gv hF (wanted_none rfl) rfl rfl (gv_assign rfl (ev_const _ _)) fun a hF => ?_)
    refine wpList_nil ?_
    refine then_normal (hKq6 _ _ ?_)
    refine wp_ret ?_
    refine then_ret ?_
    refine ret1 (fn := Try.f3) (t := 6) hF rfl rfl ?_
    exact ⟨rfl, hS.toExt (nw_cons rfl nw_nil)⟩
  ·
    refine wp_skip ?_
    refine then_normal (hKq4 _ _ ?_)
    refine wp_seq_k fun Kq7 hKq7 => ?_
    -- region 5 (law.go:25)
    refine wp_region_lit ?_
    refine wpList_stp (stp_gv hF (wanted_none rfl) rfl rfl (gv_move rfl (hF.t rfl)) fun a hF => ?_)
    refine wpList_stp (stp_gv hF (wanted_none rfl) rfl rfl (gv_move rfl (hF.t rfl)) fun a hF => ?_)
    refine wpList_stp (stp_call hF (wanted_none rfl) rfl rfl Try.ok9 rfl (Evs.cons (hF.t rfl) (Evs.cons (hF.t rfl) Evs.nil)) (new_bad (hkv.ext (hS.toExt (nw_cons rfl nw_nil))) (hcv.ext (hS.toExt (nw_cons rfl nw_nil))) hne) fun e w h => ?_)
    obtain ⟨rfl, hx⟩ := h
    refine ⟨_, rfl, fun a hF => ?_⟩
    replace hS := hS.ext hx
    clear hx
    refine wpList_stp (stp_gv hF (wanted_none rfl) rfl rfl (gv_move rfl (hF.t rfl)) fun a hF => ?_)
    refine wpList_stp (stp_gv hF (wanted_none rfl) rfl rfl (gv_extract rfl (hF.t rfl) rfl) fun a hF => ?_)
    refine wpList_stp (stp_gv hF (wanted_none rfl) rfl rfl (gv_extract rfl (hF.t rfl) rfl) fun a hF => ?_)
    refine wpList_stp (stp_gv hF (wanted_none rfl) rfl rfl (gv_assign rfl (hF.t rfl)) fun a hF => ?_)
    refine wpList_stp (stp_gv hF (wanted_none rfl) rfl rfl (gv_assign rfl (hF.t rfl)) fun a hF => ?_)
    refine wpList_nil ?_
    refine then_normal (hKq7 _ _ ?_)
    refine wp_seq_k fun Kq8 hKq8 => ?_
    refine wp_seq_k fun Kq9 hKq9 => ?_
    -- region 6 (law.go:26)
    refine wp_region_lit ?_
    refine wpList_stp (stp_gv hF (wanted_none rfl) rfl rfl (gv_move rfl (hF.t rfl)) fun a hF => ?_)
    refine wpList_stp (stp_gv hF (wanted_none rfl) rfl rfl (gv_len rfl Try.underlying22 (hF.t rfl)) fun a hF => ?_)
    refine wpList_stp (stp_gv hF (wanted_none rfl) rfl rfl (gv_neq rfl (hF.t rfl) (ev_const _ _)) fun a hF => ?_)
    refine wpList_stp (stp_gv hF (wanted_none rfl) rfl rfl (gv_move rfl (hF.t rfl)) fun a hF => ?_)
    refine wpList_stp (stp_gvG' hF rfl rfl rfl rfl rfl (fun hg => gv_move rfl (hF.t rfl)) fun a hF => ?_)
    refine wpList_stp (stp_gvG' hF rfl rfl rfl rfl rfl (fun hg => gv_len rfl Try.underlying22 ((hF.t rfl).trans (if_neg hg))) fun a hF => ?_)
    refine wpList_stp (stp_gvG' hF rfl rfl rfl rfl rfl (fun hg => gv_neq rfl ((hF.t rfl).trans (if_neg hg)) (ev_const _ _)) fun a hF => ?_)
    refine wpList_stp (stp_gv hF (wanted_none rfl) rfl rfl (gv_pickOr rfl (hF.t rfl) (ev_const _ _) (hF.t rfl)) fun a hF => ?_)
    refine wpList_nil ?_
    refine then_normal (hKq9 _ _ ?_)
    refine cond_dec (hF.t rfl) (fun h32 => ?_) (fun h32 => ?_)
    ·
      refine wp_seq_k fun Kq10 hKq10 => ?_
      -- region 7 (law.go:27)
      refine wp_region_lit ?_
      refine wpList_stp (stp_gv hF (wanted_none rfl) rfl rfl (gv_move rfl (hF.t rfl)) fun a hF => ?_)
      refine wpList_stp (stp_gv hF (wanted_none rfl) rfl rfl (gv_eqlNil rfl Try.underlying25 (hF.t rfl) (ev_const _ _)) fun a hF => ?_)
      refine wpList_stp (stp_gv hF (wanted_none rfl) rfl rfl (gv_move rfl (hF.t rfl)) fun a hF => ?_)
      refine wpList_stp (stp_gv hF (wanted_of hF rfl rfl (rfl)) rfl rfl (gv_move rfl (hF.t rfl)) fun a hF => ?_)
      refine wpList_stp (stp_gv hF (wanted_of hF rfl rfl (rfl)) rfl rfl (gv_eqlT rfl (hF.t rfl) (ev_const _ _) (rfl)) fun a hF => ?_)
      refine wpList_stp (stp_gv hF (wanted_none rfl) rfl rfl (gv_pickT rfl (hF.t rfl) (hF.t rfl)) fun a hF => ?_)
      refine wpList_stp (stp_gv hF (wanted_none rfl) rfl rfl (gv_move rfl (hF.t rfl)) fun a hF => ?_)
      refine wpList_stp (stp_gv hF (wanted_of hF rfl rfl (rfl)) rfl rfl (gv_move rfl (hF.t rfl)) fun a hF => ?_)
      refine wpList_stp (stp_gv hF (wanted_of hF rfl rfl (rfl)) rfl rfl (gv_loadAll rfl Try.underlying23 rfl (Try.sz23.trans (congrArg some (by simp [hb]))) (hF.t rfl) hS (k := 0) rfl) fun a hF => ?_)
      refine wpList_stp (stp_call hF (wanted_of hF rfl rfl (rfl)) rfl rfl Try.ok10 rfl (Evs.cons (hF.t rfl) (Evs.cons (hF.t rfl) Evs.nil)) (block_nil hb) fun e w h => ?_)
      obtain ⟨rfl, hx⟩ := h
      refine ⟨_, rfl, fun a hF => ?_⟩
      replace hS := hS.ext hx
      clear hx
      refine wpList_stp (stp_gv hF (wanted_of hF rfl rfl (rfl)) rfl rfl (gv_build (pl := []) rfl rfl (run_buildArr Try.underlying23 Try.sz5 Try.zv23 rfl rfl)) fun a hF => ?_)
      refine wpList_stp (stp_gv hF (wanted_of hF rfl rfl (rfl)) rfl rfl (gv_aggEqlT rfl Try.underlying23 Try.underlying5 Try.sz5 Try.eqg23 (hF.t rfl) (hF.t rfl) (rfl) (rfl) (rfl)) fun a hF => ?_)
      refine wpList_stp (stp_gv hF (wanted_none rfl) rfl rfl (gv_pickT rfl (hF.t rfl) (hF.t rfl)) fun a hF => ?_)
      refine wpList_stp (stp_gv hF (wanted_none rfl) rfl rfl (gv_move rfl (hF.t rfl)) fun a hF => ?_)
      refine wpList_stp (stp_gv hF (wanted_of hF rfl rfl (rfl)) rfl rfl (gv_move rfl (hF.t rfl)) fun a hF => ?_)
      refine wpList_stp (stp_gv hF (wanted_of hF rfl rfl (rfl)) rfl rfl (gv_move rfl (hF.t rfl)) fun a hF => ?_)
      refine wpList_stp (stp_call hF (wanted_of hF rfl rfl (rfl)) rfl rfl Try.ok11 rfl (Evs.cons (hF.t rfl) (Evs.cons (hF.t rfl) Evs.nil)) (turn_nil) fun e w h => ?_)
      obtain ⟨rfl, hx⟩ := h
      refine ⟨_, rfl, fun a hF => ?_⟩
      replace hS := hS.ext hx
      clear hx
      refine wpList_stp (stp_gv hF (wanted_of hF rfl rfl (rfl)) rfl rfl (gv_len rfl Try.underlying22 (hF.t rfl)) fun a hF => ?_)
      refine wpList_stp (stp_gv hF (wanted_of hF rfl rfl (rfl)) rfl rfl (gv_eqlT rfl (hF.t rfl) (ev_const _ _) (rfl)) fun a hF => ?_)
      refine wpList_stp (stp_gv hF (wanted_none rfl) rfl rfl (gv_pickT rfl (hF.t rfl) (hF.t rfl)) fun a hF => ?_)
      refine wpList_stp (stp_gv hF (wanted_none rfl) rfl rfl (gv_assign rfl (hF.t rfl)) fun a hF => ?_)
      refine wpList_nil ?_
      refine then_normal (hKq10 _ _ ?_)
      refine wp_ret ?_
      refine then_ret ?_
      refine ret1 (fn := Try.f3) (t := 6) hF rfl rfl ?_
      exact ⟨rfl, hS.toExt (nw_cons rfl nw_nil)⟩
    ·
      exfalso; omega

theorem blocks_good {kv cv : Value} {kl cl bl : List UInt8} {w0 : World} (hkv : Rd w0 kv (kl.map vB)) (hcv : Rd w0 cv (cl.map vB)) (hb : bl.length = 16) (hlk : kl.length = 16) (hlc : cl.length = 16) :
    Calls Try.prog 3 #[kv, cv, .agg (bl.map vB).toArray] w0 fun e w' => e = .returned (.bool true) ∧ Ext w0 w' := by
  obtain ⟨Ak, ck, rfl, hk1, hk2, hkc⟩ := hkv.isB
  obtain ⟨Ac, cc, rfl, hc1, hc2, hcc⟩ := hcv.isB
  clear hkc hcc
  refine calls_start 64 Try.func3 rfl Try.ntmps3 rfl fun a hF => ?_
  have hS := St.refl w0
  refine wp_seq_k fun Kq1 hKq1 => ?_
  -- region 0 (law.go:18)
  refine wp_region_lit ?_
  refine wpList_stp (stp_box hF (wanted_none rfl) rfl rfl rfl (hF.t rfl) rfl hS fun bb a w hF hS => ?_)
  refine wpList_stp (stp_gv hF (wanted_none rfl) rfl rfl (gv_assign rfl (ev_const _ _)) fun a hF => ?_)
  refine wpList_nil ?_
  refine then_normal (hKq1 _ _ ?_)
  refine wp_seq_k fun Kq2 hKq2 => ?_
  refine wp_seq_k fun Kq3 hKq3 => ?_
  -- region 1 (law.go:19)
  refine wp_region_lit ?_
  refine wpList_stp (stp_call hF (wanted_none rfl) rfl rfl Try.ok8 rfl Evs.nil (fit_ok) fun e w h => ?_)
  obtain ⟨rfl, hx⟩ := h
  refine ⟨_, rfl, fun a hF => ?_⟩
  replace hS := hS.ext hx
  clear hx
  refine wpList_stp (stp_gv hF (wanted_none rfl) rfl rfl (gv_not rfl (hF.t rfl)) fun a hF => ?_)
  refine wpList_nil ?_
  refine then_normal (hKq3 _ _ ?_)
  refine wp_cond_false (hF.t rfl) ?_
  refine wp_skip ?_
  refine then_normal (hKq2 _ _ ?_)
  refine wp_seq_k fun Kq4 hKq4 => ?_
  refine wp_seq_k fun Kq5 hKq5 => ?_
  -- region 3 (law.go:22)
  refine wp_region_lit ?_
  refine wpList_stp (stp_gv hF (wanted_none rfl) rfl rfl (gv_move rfl (hF.t rfl)) fun a hF => ?_)
  refine wpList_stp (stp_gv hF (wanted_none rfl) rfl rfl (gv_len rfl Try.underlying22 (hF.t rfl)) fun a hF => ?_)
  refine wpList_stp (stp_gv hF (wanted_none rfl) rfl rfl (gv_gtr rfl (hF.t rfl) (ev_const _ _)) fun a hF => ?_)
  refine wpList_stp (stp_gv hF (wanted_none rfl) rfl rfl (gv_move rfl (hF.t rfl)) fun a hF => ?_)
  refine wpList_stp (stp_gvG' hF rfl rfl rfl rfl rfl (fun hg => gv_move rfl (hF.t rfl)) fun a hF => ?_)
  refine wpList_stp (stp_gvG' hF rfl rfl rfl rfl rfl (fun hg => gv_len rfl Try.underlying22 ((hF.t rfl).trans (if_neg hg))) fun a hF => ?_)
  refine wpList_stp (stp_gvG' hF rfl rfl rfl rfl rfl (fun hg => gv_gtr rfl ((hF.t rfl).trans (if_neg hg)) (ev_const _ _)) fun a hF => ?_)
  refine wpList_stp (stp_gv hF (wanted_none rfl) rfl rfl (gv_pickOr rfl (hF.t rfl) (ev_const _ _) (hF.t rfl)) fun a hF => ?_)
  refine wpList_nil ?_
  refine then_normal (hKq5 _ _ ?_)
  refine cond_dec (hF.t rfl) (fun h18 => ?_) (fun h18 => ?_)
  ·
    refine wp_seq_k fun Kq6 hKq6 => ?_
    -- region 4 (law.go:23)
    refine wp_region_lit ?_
    refine wpList_stp (stp_gv hF (wanted_none rfl) rfl rfl (gv_assign rfl (ev_const _ _)) fun a hF => ?_)
    refine wpList_nil ?_
    refine then_normal (hKq6 _ _ ?_)
    refine wp_ret ?_
    refine then_ret ?_
    refine ret1 (fn := Try.f3) (t := 6) hF rfl rfl ?_
    exact ⟨rfl, hS.toExt (nw_cons rfl nw_nil)⟩
  ·
    refine wp_skip ?_
    refine then_normal (hKq4 _ _ ?_)
    refine wp_seq_k fun Kq7 hKq7 => ?_
    -- region 5 (law.go:25)
    refine wp_region_lit ?_
    refine wpList_stp (stp_gv hF (wanted_none rfl) rfl rfl (gv_move rfl (hF.t rfl)) fun a hF => ?_)
    refine wpList_stp (stp_gv hF (wanted_none rfl) rfl rfl (gv_move rfl (hF.t rfl)) fun a hF => ?_)
    refine wpList_stp (stp_call hF (wanted_none rfl) rfl rfl Try.ok9 rfl (Evs.cons (hF.t rfl) (Evs.cons (hF.t rfl) Evs.nil)) (new_st (hkv.ext (hS.toExt (nw_cons rfl nw_nil))) (hcv.ext (hS.toExt (nw_cons rfl nw_nil))) hlk hlc) fun e w h => ?_)
    obtain ⟨s, rfl, hN⟩ := h
    refine ⟨_, rfl, fun a hF => ?_⟩
    replace hS := hS.join hN (nw_cons rfl (nw_cons rfl nw_nil))
    simp only [List.cons_append, List.nil_append] at hS
    clear hN
    refine wpList_stp (stp_gv hF (wanted_none rfl) rfl rfl (gv_move rfl (hF.t rfl)) fun a hF => ?_)
    refine wpList_stp (stp_gv hF (wanted_none rfl) rfl rfl (gv_extract rfl (hF.t rfl) rfl) fun a hF => ?_)
    refine wpList_stp (stp_gv hF (wanted_none rfl) rfl rfl (gv_extract rfl (hF.t rfl) rfl) fun a hF => ?_)
    refine wpList_stp (stp_gv hF (wanted_none rfl) rfl rfl (gv_assign rfl (hF.t rfl)) fun a hF => ?_)
    refine wpList_stp (stp_gv hF (wanted_none rfl) rfl rfl (gv_assign rfl (hF.t rfl)) fun a hF => ?_)
    refine wpList_nil ?_
    refine then_normal (hKq7 _ _ ?_)
    refine wp_seq_k fun Kq8 hKq8 => ?_
    refine wp_seq_k fun Kq9 hKq9 => ?_
    -- region 6 (law.go:26)
    refine wp_region_lit ?_
    refine wpList_stp (stp_gv hF (wanted_none rfl) rfl rfl (gv_move rfl (hF.t rfl)) fun a hF => ?_)
    refine wpList_stp (stp_gv hF (wanted_none rfl) rfl rfl (gv_len rfl Try.underlying22 (hF.t rfl)) fun a hF => ?_)
    refine wpList_stp (stp_gv hF (wanted_none rfl) rfl rfl (gv_neq rfl (hF.t rfl) (ev_const _ _)) fun a hF => ?_)
    refine wpList_stp (stp_gv hF (wanted_none rfl) rfl rfl (gv_move rfl (hF.t rfl)) fun a hF => ?_)
    refine wpList_stp (stp_gvG' hF rfl rfl rfl rfl rfl (fun hg => gv_move rfl (hF.t rfl)) fun a hF => ?_)
    refine wpList_stp (stp_gvG' hF rfl rfl rfl rfl rfl (fun hg => gv_len rfl Try.underlying22 ((hF.t rfl).trans (if_neg hg))) fun a hF => ?_)
    refine wpList_stp (stp_gvG' hF rfl rfl rfl rfl rfl (fun hg => gv_neq rfl ((hF.t rfl).trans (if_neg hg)) (ev_const _ _)) fun a hF => ?_)
    refine wpList_stp (stp_gv hF (wanted_none rfl) rfl rfl (gv_pickOr rfl (hF.t rfl) (ev_const _ _) (hF.t rfl)) fun a hF => ?_)
    refine wpList_nil ?_
    refine then_normal (hKq9 _ _ ?_)
    refine cond_dec (hF.t rfl) (fun h32 => ?_) (fun h32 => ?_)
    ·
      exfalso; omega
    ·
      refine wp_skip ?_
      refine then_normal (hKq8 _ _ ?_)
      refine wp_seq_k fun Kq10 hKq10 => ?_
      -- region 8 (law.go:29)
      refine Fw.wp_region_draw (by kernel_rfl) fun w hx => ?_
      replace hS := hS.ext hx
      clear hx
      refine run_head0 (n := 12) _ hF (by kernel_rfl) rfl ?_
      refine dw_gv hF rfl (wanted_none rfl) rfl rfl (fun w hx => gv_move rfl (hF.t rfl)) fun a hF => ?_
      refine dw_gv hF rfl (wanted_none rfl) rfl rfl (fun w hx => gv_eqlT rfl (hF.t rfl) (ev_const _ _) (rfl)) fun a hF => ?_
      refine dw_gv hF rfl (wanted_none rfl) rfl rfl (fun w hx => gv_move rfl (hF.t rfl)) fun a hF => ?_
      refine dw_gv hF rfl (wanted_of hF rfl rfl (rfl)) rfl rfl (fun w hx => gv_move rfl (hF.t rfl)) fun a hF => ?_
      refine dw_gv hF rfl (wanted_of hF rfl rfl (rfl)) rfl rfl (fun w hx => gv_loadAll rfl Try.underlying23 rfl (Try.sz23.trans (congrArg some (by simp [hb]))) (hF.t rfl) (hS.ext hx) (k := 2) rfl) fun a hF => ?_
      refine dw_call hF rfl (wanted_of hF rfl rfl (rfl)) rfl rfl Try.ok10 rfl (Evs.cons (hF.t rfl) (Evs.cons (hF.t rfl) Evs.nil)) (fun w hx => block_ok ((hS.ext hx).has _ List.mem_cons_self _ rfl) (keys_len kl) hb) fun a hF => ?_
      refine dw_gv hF rfl (wanted_of hF rfl rfl (rfl)) rfl rfl (fun w hx => gv_move rfl (hF.t rfl)) fun a hF => ?_
      refine dw_gv hF rfl (wanted_of hF rfl rfl (rfl)) rfl rfl (fun w hx => gv_loadAll rfl Try.underlying23 rfl (Try.sz23.trans (congrArg some (by simp [hb]))) (hF.t rfl) (hS.ext hx) (k := 2) rfl) fun a hF => ?_
      refine dw_call hF rfl (wanted_of hF rfl rfl (rfl)) rfl rfl Try.ok12 rfl (Evs.cons (hF.t rfl) (Evs.cons (hF.t rfl) Evs.nil)) (fun w hx => rblock_any (hkv.ext ((hS.ext hx).toExt (nw_cons rfl (nw_cons rfl (nw_cons rfl nw_nil))))) hlk hb) fun a hF => ?_
      refine dw_gv hF rfl (wanted_of hF rfl rfl (rfl)) rfl rfl (fun w hx => gv_aggEqlT rfl Try.underlying23 Try.underlying5 Try.sz5 Try.eqg23 (hF.t rfl) (hF.t rfl) (blockF_len hb) (rblk_len _ _) (block_same hb)) fun a hF => ?_
      refine dw_gv hF rfl (wanted_none rfl) rfl rfl (fun w hx => gv_pickT rfl (hF.t rfl) (hF.t rfl)) fun a hF => ?_
      refine dw_gv hF rfl (wanted_none rfl) rfl rfl (fun w hx => gv_assign rfl (hF.t rfl)) fun a hF => ?_
      refine dw_nil fun a w hA hx => ?_
      replace hF := hA _ hF
      replace hS := hS.ext hx
      clear hA hx
      refine run_done (by decide) ?_
      refine then_normal (hKq10 _ _ ?_)
      refine wp_ret ?_
      refine ret1 (fn := Try.f3) (t := 6) hF rfl rfl ?_
      exact ⟨rfl, hS.toExt (nw_cons rfl (nw_cons rfl (nw_cons rfl nw_nil)))⟩


theorem blocks_true {kv cv : Value} {kl cl bl : List UInt8} {w0 : World} (hkv : Rd w0 kv (kl.map vB)) (hcv : Rd w0 cv (cl.map vB)) (hb : bl.length = 16) :
    Calls Try.prog 3 #[kv, cv, .agg (bl.map vB).toArray] w0 fun e w' => e = .returned (.bool true) ∧ Ext w0 w' := by
  by_cases h : kl.length = 16 ∧ cl.length = 16
  · exact blocks_good hkv hcv hb h.1 h.2
  · exact blocks_bad hkv hcv hb h



end Go.Proofs.Ytfhalnobaeogkaa

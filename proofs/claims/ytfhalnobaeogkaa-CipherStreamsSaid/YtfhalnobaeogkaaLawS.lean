/- What is proved: CipherStreams returns true, where no part is longer than 2^47. -/
import Derived.Test.YtfhalnobaeogkaaProg
import Derived.Test.YtfhalnobaeogkaaFwSep
import Derived.KernelRfl
import Derived.Test.YtfhalnobaeogkaaFwStr
import Derived.Test.YtfhalnobaeogkaaLeaf
import Derived.Test.YtfhalnobaeogkaaCip
import Derived.Test.YtfhalnobaeogkaaCipN
import Derived.Test.YtfhalnobaeogkaaRef
import Derived.Test.YtfhalnobaeogkaaRef2
import Derived.Test.YtfhalnobaeogkaaRefB
import Derived.Test.YtfhalnobaeogkaaRefY
import Derived.Test.YtfhalnobaeogkaaFit
import Derived.Test.YtfhalnobaeogkaaSame
import Derived.Test.YtfhalnobaeogkaaSame2
import Derived.Test.YtfhalnobaeogkaaLawB
import Derived.Test.YtfhalnobaeogkaaLawW
import Derived.Test.YtfhalnobaeogkaaLawO
import Derived.Test.YtfhalnobaeogkaaFwAny
set_option linter.unusedVariables false
set_option linter.unusedSimpArgs false
namespace Go.Proofs.Ytfhalnobaeogkaa
open Go Go.RowKit Go.Fw




def nS (pls : List (List UInt8)) : Nat → Nat
  | 0 => 0
  | i + 1 => nS pls i + (1 + (pls.getD i []).length)
def catL (pls : List (List UInt8)) : Nat → List UInt8
  | 0 => []
  | i + 1 => catL pls i ++ pls.getD i []
theorem catL_le (pls : List (List UInt8)) : ∀ i, (catL pls i).length + i = nS pls i
  | 0 => rfl
  | i + 1 => by
    have := catL_le pls i
    simp only [catL, nS, List.length_append]; omega
theorem catL_len (pls : List (List UInt8)) (i : Nat) : (catL pls (i + 1)).length = (catL pls i).length + (pls.getD i []).length := by rw [catL, List.length_append]
theorem nS_mono (pls : List (List UInt8)) (i : Nat) : ∀ k, nS pls i ≤ nS pls (i + k)
  | 0 => Nat.le_refl _
  | k + 1 => Nat.le_trans (nS_mono pls i k) (by show _ ≤ nS pls (i + k) + _; omega)
theorem turned_cat (kl cl : List UInt8) (pls : List (List UInt8)) (i : Nat) : (turned kl cl 0 (catL pls i)).map vB ++ (turned kl cl (catL pls i).length (pls.getD i [])).map vB = (turned kl cl 0 (catL pls (i + 1))).map vB := by
  rw [catL, turned_app, Nat.zero_add, List.map_append]
theorem cat_map (pls : List (List UInt8)) (i : Nat) : (catL pls i).map vB ++ (pls.getD i []).map vB = (catL pls (i + 1)).map vB := by rw [catL, List.map_append]
theorem getD_at {pvs : List Value} {i : Nat} (h : i < pvs.length) : pvs[i]? = some (pvs.getD i undef) := by
  rw [List.getD_eq_getElem?_getD, List.getElem?_eq_getElem h]; rfl


set_option maxHeartbeats 2000000 in
theorem streams_true {kv cv pv : Value} {kl cl : List UInt8} {pvs : List Value} {pls : List (List UInt8)} {w0 : World} (hkv : Rd w0 kv (kl.map vB)) (hcv : Rd w0 cv (cl.map vB)) (hpv : Rd w0 pv pvs) (hp : ∀ i, i < pvs.length → Rd w0 (pvs.getD i undef) ((pls.getD i []).map vB)) (hsz : ∀ i, (pls.getD i []).length ≤ 140737488355328) :
    Calls Try.prog 4 #[kv, cv, pv] w0 fun e w' => e = .returned (.bool true) ∧ Ext w0 w' := by
  obtain ⟨Ak, ck, rfl, hk1, hk2, hkc⟩ := hkv.isB
  obtain ⟨Ac, cc, rfl, hc1, hc2, hcc⟩ := hcv.isB
  obtain ⟨Ap, cp, rfl, hp1, hp2, hpc⟩ := hpv.is
  clear hkc hcc
  refine calls_start 78 Try.func4 rfl Try.ntmps4 rfl fun a hF => ?_
  have hS := St.refl w0
  refine wp_seq_k fun Kq1 hKq1 => ?_
  -- region 0 (law.go:33)
  refine wp_region_lit ?_
  refine wpList_stp (stp_gv hF (wanted_none rfl) rfl rfl (gv_assign rfl (ev_const _ _)) fun a hF => ?_)
  refine wpList_nil ?_
  refine then_normal (hKq1 _ _ ?_)
  refine wp_seq_k fun Kq2 hKq2 => ?_
  refine wp_seq_k fun Kq3 hKq3 => ?_
  -- region 1 (law.go:34)
  refine wp_region_lit ?_
  refine wpList_stp (stp_call hF (wanted_none rfl) rfl rfl Try.ok8 rfl Evs.nil (fit_ok) fun e w h => ?_)
  obtain ⟨rfl, hx⟩ := h
  refine ⟨_, rfl, fun a hF => ?_⟩
  replace hS := hS.ext hx
  clear hx
  refine wpList_stp (stp_gv hF (wanted_none rfl) rfl rfl (gv_not rfl (hF.t rfl)) fun a hF => ?_)
  refine wpList_nil ?_
  refine then_normal (hKq3 _ _ ?_)
  refine wp_cond_false (hF.t rfl) ?_
  refine wp_skip ?_
  refine then_normal (hKq2 _ _ ?_)
  refine wp_seq_k fun Kq4 hKq4 => ?_
  refine wp_seq_k fun Kq5 hKq5 => ?_
  -- region 3 (law.go:37)
  refine wp_region_lit ?_
  refine wpList_stp (stp_gv hF (wanted_none rfl) rfl rfl (gv_move rfl (hF.t rfl)) fun a hF => ?_)
  refine wpList_stp (stp_gv hF (wanted_none rfl) rfl rfl (gv_len rfl Try.underlying22 (hF.t rfl)) fun a hF => ?_)
  refine wpList_stp (stp_gv hF (wanted_none rfl) rfl rfl (gv_neq rfl (hF.t rfl) (ev_const _ _)) fun a hF => ?_)
  refine wpList_stp (stp_gv hF (wanted_none rfl) rfl rfl (gv_move rfl (hF.t rfl)) fun a hF => ?_)
  refine wpList_stp (stp_gvG' hF rfl rfl rfl rfl rfl (fun hg => gv_move rfl (hF.t rfl)) fun a hF => ?_)
  refine wpList_stp (stp_gvG' hF rfl rfl rfl rfl rfl (fun hg => gv_len rfl Try.underlying22 ((hF.t rfl).trans (if_neg hg))) fun a hF => ?_)
  refine wpList_stp (stp_gvG' hF rfl rfl rfl rfl rfl (fun hg => gv_neq rfl ((hF.t rfl).trans (if_neg hg)) (ev_const _ _)) fun a hF => ?_)
  refine wpList_stp (stp_gv hF (wanted_none rfl) rfl rfl (gv_pickOr rfl (hF.t rfl) (ev_const _ _) (hF.t rfl)) fun a hF => ?_)
  refine wpList_nil ?_
  refine then_normal (hKq5 _ _ ?_)
  refine cond_dec (hF.t rfl) (fun h25 => ?_) (fun h25 => ?_)
  ·
    refine wp_seq_k fun Kq6 hKq6 => ?_
    -- region 4 (law.go:38)
    refine wp_region_lit ?_
    refine wpList_stp (stp_gv hF (wanted_none rfl) rfl rfl (gv_assign rfl (ev_const _ _)) fun a hF => ?_)
    refine wpList_nil ?_
    refine then_normal (hKq6 _ _ ?_)
    refine wp_ret ?_
    refine then_ret ?_
    refine ret1 (fn := Try.f4) (t := 6) hF rfl rfl ?_
    exact ⟨rfl, hS.toExt nw_nil⟩
  ·
    have hlk : kl.length = 16 := by omega
    have hlc : cl.length = 16 := by omega
    refine wp_skip ?_
    refine then_normal (hKq4 _ _ ?_)
    refine wp_seq_k fun Kq7 hKq7 => ?_
    -- region 5 (law.go:40)
    refine wp_region_lit ?_
    refine wpList_stp (stp_gv hF (wanted_none rfl) rfl rfl (gv_assign rfl (ev_const _ _)) fun a hF => ?_)
    refine wpList_nil ?_
    refine then_normal (hKq7 _ _ ?_)
    refine wp_seq_k fun Kq8 hKq8 => ?_
    refine wp_seq_k fun Kq9 hKq9 => ?_
    -- region 6 (law.go:41)
    refine wp_region_lit ?_
    refine wpList_stp (stp_gv hF (wanted_none rfl) rfl rfl (gv_move rfl (hF.t rfl)) fun a hF => ?_)
    refine wpList_stp (stp_gv hF (wanted_none rfl) rfl rfl (gv_len rfl Try.underlying33 (hF.t rfl)) fun a hF => ?_)
    refine wpList_stp (stp_gv hF (wanted_none rfl) rfl rfl (gv_move rfl (ev_const _ _)) fun a hF => ?_)
    refine wpList_nil ?_
    refine then_normal (hKq9 _ _ ?_)
    refine wp_block ?_
    refine wp_loop_n (fun q a w => ∃ i, i ≤ pvs.length ∧ q = pvs.length - i ∧ nS pls i ≤ 500 ∧ Fr 78 a [(0, .slice Ak kl.length ck), (1, .slice Ac cl.length cc), (2, .slice Ap pvs.length cp), (7, vI (nS pls i)), (26, .slice Ap pvs.length cp), (27, vI pvs.length), (28, vI i)] ∧ St w0 w []) pvs.length ⟨0, by omega, by omega, by simp [nS], hF.sub ⟨rfl, rfl, rfl, rfl, rfl, rfl, rfl, trivial⟩, hS⟩ ?_
    rintro q a w ⟨i, hi, hq, hnS, hF, hS⟩
    refine wp_seq_k fun Kq10 hKq10 => ?_
    -- region 7 (law.go:41)
    refine wp_region_lit ?_
    refine wpList_stp (stp_gv hF (wanted_none rfl) rfl rfl (gv_lss rfl (hF.t rfl) (hF.t rfl)) fun a hF => ?_)
    refine wpList_nil ?_
    refine then_normal (hKq10 _ _ ?_)
    refine wp_seq_k fun Kq11 hKq11 => ?_
    refine cond_dec (hF.t rfl) (fun h29 => ?_) (fun h29 => ?_)
    ·
      obtain ⟨bp, op, rfl, hpc⟩ := hpc (by omega)
      have hpi := hp i (by omega)
      obtain ⟨Ai, ci, hu, hi1, hi2, hi3⟩ := hpi.isB
      have hget := getD_at (pvs := pvs) (i := i) (by omega)
      rw [hu] at hget hpi
      have hszi := hsz i
      clear hi3
      refine wp_skip ?_
      refine then_normal (hKq11 _ _ ?_)
      refine wp_seq_k fun Kq12 hKq12 => ?_
      refine wp_block ?_
      refine wp_seq_k fun Kq13 hKq13 => ?_
      -- region 8 (law.go:41)
      refine wp_region_lit ?_
      refine wpList_stp (stp_gv hF (wanted_none rfl) rfl rfl (gv_indexSl rfl Try.underlying33 Try.sz22 (hF.t rfl) (hF.t rfl) (by omega)) fun a hF => ?_)
      refine wpList_stp (stp_gv hF (wanted_none rfl) rfl rfl (gv_load rfl Try.underlying22 rfl (hF.t rfl) (cell_ix ((hpv.ext (hS.toExt nw_nil)).rdcell hget) (by omega))) fun a hF => ?_)
      refine wpList_stp (stp_gv hF (wanted_none rfl) rfl rfl (gv_assign rfl (hF.t rfl)) fun a hF => ?_)
      refine wpList_nil ?_
      refine then_normal (hKq13 _ _ ?_)
      refine wp_seq_k fun Kq14 hKq14 => ?_
      -- region 9 (law.go:42)
      refine wp_region_lit ?_
      refine wpList_stp (stp_gv hF (wanted_none rfl) rfl rfl (gv_move rfl (hF.t rfl)) fun a hF => ?_)
      refine wpList_stp (stp_gv hF (wanted_none rfl) rfl rfl (gv_move rfl (hF.t rfl)) fun a hF => ?_)
      refine wpList_stp (stp_gv hF (wanted_none rfl) rfl rfl (gv_len rfl Try.underlying22 (hF.t rfl)) fun a hF => ?_)
      refine wpList_stp (stp_gv hF (wanted_none rfl) rfl rfl (gv_nadd (m := 1) rfl rfl (hF.t rfl) (by omega)) fun a hF => ?_)
      refine wpList_stp (stp_gv hF (wanted_none rfl) rfl rfl (gv_nadd rfl (hF.t rfl) (hF.t rfl) (by omega)) fun a hF => ?_)
      refine wpList_stp (stp_gv hF (wanted_none rfl) rfl rfl (gv_assign rfl (hF.t rfl)) fun a hF => ?_)
      refine wpList_nil ?_
      refine then_normal (hKq14 _ _ ?_)
      refine wp_seq_k fun Kq15 hKq15 => ?_
      -- region 10 (law.go:42)
      refine wp_region_lit ?_
      refine wpList_stp (stp_gv hF (wanted_none rfl) rfl rfl (gv_move rfl (hF.t rfl)) fun a hF => ?_)
      refine wpList_stp (stp_gv hF (wanted_none rfl) rfl rfl (gv_gtr rfl (hF.t rfl) (ev_const _ _)) fun a hF => ?_)
      refine wpList_nil ?_
      refine then_normal (hKq15 _ _ ?_)
      refine cond_dec (hF.t rfl) (fun h38 => ?_) (fun h38 => ?_)
      ·
        refine wp_seq_k fun Kq16 hKq16 => ?_
        -- region 11 (law.go:43)
        refine wp_region_lit ?_
        refine wpList_stp (stp_gv hF (wanted_none rfl) rfl rfl (gv_assign rfl (ev_const _ _)) fun a hF => ?_)
        refine wpList_nil ?_
        refine then_normal (hKq16 _ _ ?_)
        refine wp_ret ?_
        refine block_ret ?_
        refine then_ret ?_
        refine then_ret ?_
        refine block_ret ?_
        refine then_ret ?_
        refine ret1 (fn := Try.f4) (t := 6) hF rfl rfl ?_
        exact ⟨rfl, hS.toExt nw_nil⟩
      ·
        refine wp_skip ?_
        refine block_normal ?_
        refine then_normal (hKq12 _ _ ?_)
        -- region 12 (law.go:41)
        refine wp_region_lit ?_
        refine wpList_stp (stp_gv hF (wanted_none rfl) rfl rfl (gv_nadd (n := 1) rfl (hF.t rfl) rfl (by omega)) fun a hF => ?_)
        refine wpList_stp (stp_gv hF (wanted_none rfl) rfl rfl (gv_move rfl (hF.t rfl)) fun a hF => ?_)
        refine wpList_nil ?_
        refine then_normal ?_
        exact ⟨q - 1, by omega, i + 1, by omega, by omega, by show nS pls i + _ ≤ 500; omega, hF.sub ⟨rfl, rfl, rfl, rfl, rfl, rfl, rfl, trivial⟩, hS⟩
    ·
      refine wp_exit ?_
      refine then_exit ?_
      refine then_exit ?_
      refine block_exit ?_
      refine then_normal (hKq8 _ _ ?_)
      refine wp_seq_k fun Kq17 hKq17 => ?_
      obtain rfl : i = pvs.length := by omega
      -- region 13 (law.go:46)
      refine wp_region_lit ?_
      refine wpList_stp (stp_gv hF (wanted_none rfl) rfl rfl (gv_move rfl (hF.t rfl)) fun a hF => ?_)
      refine wpList_stp (stp_gv hF (wanted_none rfl) rfl rfl (gv_move rfl (hF.t rfl)) fun a hF => ?_)
      refine wpList_stp (stp_call hF (wanted_none rfl) rfl rfl Try.ok9 rfl (Evs.cons (hF.t rfl) (Evs.cons (hF.t rfl) Evs.nil)) (new_st (hkv.ext (hS.toExt nw_nil)) (hcv.ext (hS.toExt nw_nil)) hlk hlc) fun e w h => ?_)
      obtain ⟨s, rfl, hN⟩ := h
      refine ⟨_, rfl, fun a hF => ?_⟩
      replace hS := hS.join hN (nw_cons rfl (nw_cons rfl nw_nil))
      simp only [List.cons_append, List.nil_append] at hS
      clear hN
      refine wpList_stp (stp_gv hF (wanted_none rfl) rfl rfl (gv_move rfl (hF.t rfl)) fun a hF => ?_)
      refine wpList_stp (stp_gv hF (wanted_none rfl) rfl rfl (gv_extract rfl (hF.t rfl) rfl) fun a hF => ?_)
      refine wpList_stp (stp_gv hF (wanted_none rfl) rfl rfl (gv_extract rfl (hF.t rfl) rfl) fun a hF => ?_)
      refine wpList_stp (stp_gv hF (wanted_none rfl) rfl rfl (gv_assign rfl (hF.t rfl)) fun a hF => ?_)
      refine wpList_stp (stp_gv hF (wanted_none rfl) rfl rfl (gv_assign rfl (hF.t rfl)) fun a hF => ?_)
      refine wpList_nil ?_
      refine then_normal (hKq17 _ _ ?_)
      refine wp_seq_k fun Kq18 hKq18 => ?_
      -- region 14 (law.go:47)
      refine wp_region_lit ?_
      refine wpList_stp (stp_gv hF (wanted_none rfl) rfl rfl (gv_assign rfl (ev_const _ _)) fun a hF => ?_)
      refine wpList_stp (stp_gv hF (wanted_none rfl) rfl rfl (gv_assign rfl (ev_const _ _)) fun a hF => ?_)
      refine wpList_nil ?_
      refine then_normal (hKq18 _ _ ?_)
      refine wp_seq_k fun Kq19 hKq19 => ?_
      refine wp_seq_k fun Kq20 hKq20 => ?_
      -- region 15 (law.go:48)
      refine wp_region_lit ?_
      refine wpList_stp (stp_gv hF (wanted_none rfl) rfl rfl (gv_move rfl (hF.t rfl)) fun a hF => ?_)
      refine wpList_stp (stp_gv hF (wanted_none rfl) rfl rfl (gv_len rfl Try.underlying33 (hF.t rfl)) fun a hF => ?_)
      refine wpList_stp (stp_gv hF (wanted_none rfl) rfl rfl (gv_move rfl (ev_const _ _)) fun a hF => ?_)
      refine wpList_nil ?_
      refine then_normal (hKq20 _ _ ?_)
      refine wp_block ?_
      replace hS := St.rot (hS.addNil (blk 5 ([] ++ [])))
      replace hS := St.rot (hS.addNil (blk 5 ([] ++ [])))
      refine wp_loop_n (fun q a w => ∃ i g gp al ap lv kb KB, i ≤ pvs.length ∧ q = pvs.length - i ∧ (g = none → catL pls i = [] ∧ gp = []) ∧ (catL pls i).length + gp.length ≤ 9223372036854775807 ∧ (al = none → catL pls i = [] ∧ ap = []) ∧ (catL pls i).length + ap.length ≤ 9223372036854775807 ∧ Fr 78 a [(0, .slice Ak kl.length ck), (1, .slice Ac cl.length cc), (2, .slice Ap pvs.length cp), (10, .pointer (some ⟨s, 0, none⟩)), (12, ownV al (catL pls i).length ((catL pls i).length + ap.length)), (13, ownV g (catL pls i).length ((catL pls i).length + gp.length)), (46, .slice Ap pvs.length cp), (47, vI pvs.length), (48, vI i)] ∧ St w0 w [⟨true, some s, strm (keys kl) (kst (keys kl) (cl, []) (catL pls i).length).1 lv⟩, ⟨true, kb, blkB 23 KB⟩, ⟨true, g, blk 5 ((turned kl cl 0 (catL pls i)).map vB ++ gp)⟩, ⟨true, al, blk 5 ((catL pls i).map vB ++ ap)⟩] ∧ SRd w0 [⟨true, kb, blkB 23 KB⟩] lv ((kst (keys kl) (cl, []) (catL pls i).length).2.map vB)) pvs.length ⟨0, none, [], none, [], _, _, _, by omega, by omega, fun _ => ⟨rfl, rfl⟩, by simp [catL], fun _ => ⟨rfl, rfl⟩, by simp [catL], hF.sub ⟨rfl, rfl, rfl, rfl, rfl, rfl, rfl, rfl, rfl, trivial⟩, hS, nil_left⟩ ?_
      rintro q a w ⟨i, g, gp, al, ap, lv, kb, KB, hi, hq, go, gc, ao, ac, hF, hS, lvL⟩
      have hcat := catL_le pls i
      have hm := nS_mono pls i (pvs.length - i)
      rw [show i + (pvs.length - i) = pvs.length by omega] at hm
      refine wp_seq_k fun Kq21 hKq21 => ?_
      -- region 16 (law.go:48)
      refine wp_region_lit ?_
      refine wpList_stp (stp_gv hF (wanted_none rfl) rfl rfl (gv_lss rfl (hF.t rfl) (hF.t rfl)) fun a hF => ?_)
      refine wpList_nil ?_
      refine then_normal (hKq21 _ _ ?_)
      refine wp_seq_k fun Kq22 hKq22 => ?_
      refine cond_dec (hF.t rfl) (fun h49 => ?_) (fun h49 => ?_)
      ·
        obtain ⟨bp, op, rfl, hpc⟩ := hpc (by omega)
        have hpi := hp i (by omega)
        obtain ⟨Ai, ci, hu, hi1, hi2, hi3⟩ := hpi.isB
        have hget := getD_at (pvs := pvs) (i := i) (by omega)
        rw [hu] at hget hpi
        have hszi := hsz i
        clear hi3
        have hm1 := nS_mono pls (i + 1) (pvs.length - (i + 1))
        rw [show i + 1 + (pvs.length - (i + 1)) = pvs.length by omega] at hm1
        have hm2 : nS pls (i + 1) = nS pls i + (1 + (pls.getD i []).length) := rfl
        refine wp_skip ?_
        refine then_normal (hKq22 _ _ ?_)
        refine wp_seq_k fun Kq23 hKq23 => ?_
        refine wp_block ?_
        refine wp_seq_k fun Kq24 hKq24 => ?_
        -- region 17 (law.go:48)
        refine wp_region_lit ?_
        refine wpList_stp (stp_gv hF (wanted_none rfl) rfl rfl (gv_move rfl (hF.t rfl)) fun a hF => ?_)
        refine wpList_stp (stp_gv hF (wanted_none rfl) rfl rfl (gv_indexSl rfl Try.underlying33 Try.sz22 (hF.t rfl) (hF.t rfl) (by omega)) fun a hF => ?_)
        refine wpList_stp (stp_gv hF (wanted_none rfl) rfl rfl (gv_load rfl Try.underlying22 rfl (hF.t rfl) (cell_ix ((hpv.ext (hS.toExt (nw_cons rfl (nw_cons rfl (nw_cons rfl (nw_cons rfl nw_nil)))))).rdcell hget) (by omega))) fun a hF => ?_)
        refine wpList_stp (stp_gv hF (wanted_none rfl) rfl rfl (gv_assign rfl (hF.t rfl)) fun a hF => ?_)
        refine wpList_stp (stp_gv hF (wanted_none rfl) rfl rfl (gv_assign rfl (hF.t rfl)) fun a hF => ?_)
        refine wpList_nil ?_
        refine then_normal (hKq24 _ _ ?_)
        refine wp_seq_k fun Kq25 hKq25 => ?_
        -- region 18 (law.go:49)
        refine wp_region_lit ?_
        refine wpList_stp (stp_gv hF (wanted_none rfl) rfl rfl (gv_move rfl (hF.t rfl)) fun a hF => ?_)
        refine wpList_stp (stp_gv hF (wanted_none rfl) rfl rfl (gv_move rfl (hF.t rfl)) fun a hF => ?_)
        refine wpList_stp (stp_gv hF (wanted_none rfl) rfl rfl (gv_move rfl (hF.t rfl)) fun a hF => ?_)
        refine wpList_stp (stp_call hF (wanted_none rfl) rfl rfl Try.ok11 rfl (Evs.cons (hF.t rfl) (Evs.cons (hF.t rfl) Evs.nil)) (turn_ok (nw_cons rfl (nw_cons rfl nw_nil)) hS lvL (bl := pls.getD i []) (SRd.old hpi) (keys_len kl) (kst_len hlc _) (by omega)) fun e w h => ?_)
        obtain ⟨x, xp, xl, xk, xB, rfl, xo, xc, hS, xL⟩ := h
        refine ⟨_, rfl, fun a hF => ?_⟩
        rw [outT_turned hlc, kst_add, ← catL_len] at hS
        rw [kst_add, ← catL_len] at xL
        have hR := rd_own (l := turned kl cl (catL pls i).length (pls.getD i [])) hS List.mem_cons_self (nw_cons rfl (nw_cons rfl (nw_cons rfl (nw_cons rfl (nw_cons rfl nw_nil))))) (fun h => ⟨List.length_eq_zero_iff.1 (by rw [turned_len, (xo h).1]; rfl), (xo h).2⟩) (turned_len _ _ _ _) xc
        refine wpList_stp (stp_append (ob := g) (xs := (turned kl cl 0 (catL pls i)).map vB) (pad := gp) (k := 3) hF (wanted_none rfl) rfl rfl rfl Try.underlying22 Try.ty5 rfl (by rw [List.length_map, turned_len]; exact hF.t rfl) (hF.t rfl) hS rfl (fun h => ⟨List.length_eq_zero_iff.1 (by rw [List.length_map, turned_len, (go h).1]; rfl), (go h).2⟩) (by rw [List.length_map, turned_len]; exact gc) hR (one_B _) (by simp only [List.length_map, turned_len]; omega) (by simp only [List.length_map, turned_len]; omega) fun g gp a w hF go gc hS => ?_)
        simp only [List.length_map, turned_len, turned_cat, List.map_eq_nil_iff, ← catL_len] at hF hS go gc
        clear hR
        refine wpList_stp (stp_gv hF (wanted_none rfl) rfl rfl (gv_assign rfl (hF.t rfl)) fun a hF => ?_)
        refine wpList_nil ?_
        refine then_normal (hKq25 _ _ ?_)
        refine wp_seq_k fun Kq26 hKq26 => ?_
        -- region 19 (law.go:50)
        refine wp_region_lit ?_
        refine wpList_stp (stp_gv hF (wanted_none rfl) rfl rfl (gv_move rfl (hF.t rfl)) fun a hF => ?_)
        refine wpList_stp (stp_gv hF (wanted_none rfl) rfl rfl (gv_move rfl (hF.t rfl)) fun a hF => ?_)
        have hR := hpi.ext (hS.toExt (nw_cons rfl (nw_cons rfl (nw_cons rfl (nw_cons rfl (nw_cons rfl nw_nil))))))
        refine wpList_stp (stp_append (ob := al) (xs := (catL pls i).map vB) (pad := ap) (k := 4) hF (wanted_none rfl) rfl rfl rfl Try.underlying22 Try.ty5 rfl (by rw [List.length_map]; exact hF.t rfl) (hF.t rfl) hS rfl (fun h => ⟨by rw [(ao h).1]; rfl, (ao h).2⟩) (by rw [List.length_map]; exact ac) hR (one_B _) (by simp only [List.length_map]; omega) (by simp only [List.length_map]; omega) fun al ap a w hF ao ac hS => ?_)
        simp only [List.length_map, cat_map, List.map_eq_nil_iff, ← catL_len] at hF hS ao ac
        clear hR
        refine wpList_stp (stp_gv hF (wanted_none rfl) rfl rfl (gv_assign rfl (hF.t rfl)) fun a hF => ?_)
        refine wpList_nil ?_
        refine then_normal (hKq26 _ _ ?_)
        -- region 20 (law.go:51)
        refine wp_region_lit ?_
        refine wpList_stp (stp_gv hF (wanted_none rfl) rfl rfl (gv_move rfl (hF.t rfl)) fun a hF => ?_)
        refine wpList_stp (stp_gv hF (wanted_none rfl) rfl rfl (gv_move rfl (hF.t rfl)) fun a hF => ?_)
        refine wpList_stp (stp_gv hF (wanted_none rfl) rfl rfl (gv_conv_i_b rfl Try.underlying3 Try.underlying5 (hF.t rfl)) fun a hF => ?_)
        refine wpList_stp (stp_gv hF (wanted_none rfl) rfl rfl (gv_build (v := .agg (((List.replicate 16 (0 : UInt8)).set 0 (UInt8.ofNat i)).map vB).toArray) rfl (EvP.map (EvP.cons (hF.t rfl) EvP.nil)) (run_buildArr (cs := (((List.replicate 16 (0 : UInt8)).set 0 (UInt8.ofNat i)).map vB).toArray) Try.underlying23 Try.sz5 Try.zv23 rfl (by rfl))) fun a hF => ?_)
        refine wpList_stp (stp_call hF (wanted_none rfl) rfl rfl Try.ok10 rfl (Evs.cons (hF.t rfl) (Evs.cons (hF.t rfl) Evs.nil)) (block_ok (hS.has _ (List.mem_of_getElem? (i := 1) rfl) _ rfl) (keys_len kl) rfl) fun e w h => ?_)
        obtain ⟨rfl, hx⟩ := h
        refine ⟨_, rfl, fun a hF => ?_⟩
        replace hS := hS.ext hx
        clear hx
        refine wpList_nil ?_
        refine block_normal ?_
        refine then_normal (hKq23 _ _ ?_)
        -- region 21 (law.go:48)
        refine wp_region_lit ?_
        refine wpList_stp (stp_gv hF (wanted_none rfl) rfl rfl (gv_nadd (n := 1) rfl (hF.t rfl) rfl (by omega)) fun a hF => ?_)
        refine wpList_stp (stp_gv hF (wanted_none rfl) rfl rfl (gv_move rfl (hF.t rfl)) fun a hF => ?_)
        refine wpList_nil ?_
        refine then_normal ?_
        exact ⟨q - 1, by omega, i + 1, g, gp, al, ap, _, _, _, by omega, by omega, (fun h => ⟨List.length_eq_zero_iff.1 (by have := congrArg List.length (go h).1; rwa [turned_len] at this), (go h).2⟩), gc, ao, ac, hF.sub ⟨rfl, rfl, rfl, rfl, rfl, rfl, rfl, rfl, rfl, trivial⟩, hS.drop rfl, xL⟩
      ·
        refine wp_exit ?_
        refine then_exit ?_
        refine then_exit ?_
        refine block_exit ?_
        refine then_normal (hKq19 _ _ ?_)
        refine wp_seq_k fun Kq27 hKq27 => ?_
        obtain rfl : i = pvs.length := by omega
        have hcat := catL_le pls pvs.length
        -- region 22 (law.go:53)
        refine Fw.wp_region_draw (by kernel_rfl) fun w hx => ?_
        replace hS := hS.ext hx
        clear hx
        refine run_headS (n := 12) _ [(7, 74, FlR ((byts kl cl (catL pls pvs.length).length).map vB)), (8, 75, FlR ((xr (catL pls pvs.length) (byts kl cl (catL pls pvs.length).length) (catL pls pvs.length).length).map vB)), (9, 76, FlE (sV (xr (catL pls pvs.length) (byts kl cl (catL pls pvs.length).length) (catL pls pvs.length).length))), (10, 77, FlE (.bool true)), (11, 6, FlE (.bool true))] hF (by kernel_rfl) rfl (fa_cons rfl (fa_cons rfl (fa_cons rfl (fa_cons rfl (fa_cons rfl fa_nil))))) (fa_cons (FlR.lasts _) (fa_cons (FlR.lasts _) (fa_cons (FlE.lasts _) (fa_cons (FlE.lasts _) (fa_cons (FlE.lasts _) fa_nil))))) (fa_cons ⟨Nat.zero_le _, Nat.le_of_ble_eq_true rfl⟩ (fa_cons ⟨Nat.zero_le _, Nat.le_of_ble_eq_true rfl⟩ (fa_cons ⟨Nat.zero_le _, Nat.le_of_ble_eq_true rfl⟩ (fa_cons ⟨Nat.zero_le _, Nat.le_of_ble_eq_true rfl⟩ (fa_cons ⟨Nat.zero_le _, Nat.le_of_ble_eq_true rfl⟩ fa_nil))))) rfl ?_
        refine dw_gv hF rfl (wanted_none rfl) rfl rfl (fun w hx => gv_move rfl (hF.t rfl)) fun a hF => ?_
        refine dw_gv hF rfl (wanted_none rfl) rfl rfl (fun w hx => gv_convStr rfl Try.underlying22 Try.underlying5 Try.underlying9 (hF.t rfl) (rd_own (l := turned kl cl 0 (catL pls pvs.length)) (hS.ext hx) (List.mem_of_getElem? (i := 2) rfl) (nw_cons rfl (nw_cons rfl (nw_cons rfl (nw_cons rfl nw_nil)))) (fun h => ⟨List.length_eq_zero_iff.1 (by rw [turned_len, (go h).1]; rfl), (go h).2⟩) (turned_len _ _ _ _) gc)) fun a hF => ?_
        refine dw_gv hF rfl (wanted_none rfl) rfl rfl (fun w hx => gv_move rfl (hF.t rfl)) fun a hF => ?_
        refine dw_gv hF rfl (wanted_none rfl) rfl rfl (fun w hx => gv_move rfl (hF.t rfl)) fun a hF => ?_
        refine dw_gv hF rfl (wanted_none rfl) rfl rfl (fun w hx => gv_move rfl (hF.t rfl)) fun a hF => ?_
        refine dw_gv hF rfl (wanted_none rfl) rfl rfl (fun w hx => gv_move rfl (hF.t rfl)) fun a hF => ?_
        refine dw_gv hF rfl (wanted_none rfl) rfl rfl (fun w hx => gv_lenOwn rfl Try.underlying22 (hF.t rfl) (fun h => by rw [(ao h).1]; rfl)) fun a hF => ?_
        refine dw_fl rfl ?_
        refine dw_fl rfl ?_
        refine dw_fl rfl ?_
        refine dw_fl rfl ?_
        refine dw_fl rfl ?_
        refine dw_nil ⟨(fa_cons ?_ (fa_cons ?_ (fa_cons ?_ (fa_cons ?_ (fa_cons ?_ fa_nil))))), fun a w hx hA hR => ?_⟩
        · intro a w hx hA hdp
          replace hF := hA _ hF
          replace hS := hS.ext hx
          exact ⟨_, rfl, sx_call (wanted_none rfl) Try.ok14 rfl (Evs.cons (hF.t rfl) (Evs.cons (hF.t rfl) (Evs.cons (hF.t rfl) Evs.nil))) (rbytes_ok (hkv.ext (hS.toExt (nw_cons rfl (nw_cons rfl (nw_cons rfl (nw_cons rfl nw_nil)))))) (hcv.ext (hS.toExt (nw_cons rfl (nw_cons rfl (nw_cons rfl (nw_cons rfl nw_nil)))))) hlk hlc (by omega))⟩
        · intro a w hx hA hdp
          replace hF := hA _ hF
          replace hS := hS.ext hx
          exact ⟨_, rfl, sx_call (wanted_none rfl) Try.ok13 rfl (Evs.cons (hF.t rfl) (Evs.cons (hF.t rfl) Evs.nil)) (rturn_ok (rd_own (l := catL pls pvs.length) hS (List.mem_of_getElem? (i := 3) rfl) (nw_cons rfl (nw_cons rfl (nw_cons rfl (nw_cons rfl nw_nil)))) ao rfl ac) (hdp _ (List.mem_of_getElem? (i := 0) rfl) (by kernel_rfl)) (by rw [byts_len]; exact Nat.le_refl _) (by omega))⟩
        · intro a w hx hA hdp
          replace hF := hA _ hF
          replace hS := hS.ext hx
          exact ⟨_, rfl, sx_gv (wanted_none rfl) (gv_convStr rfl Try.underlying22 Try.underlying5 Try.underlying9 (hF.t rfl) (hdp _ (List.mem_of_getElem? (i := 1) rfl) (by kernel_rfl))) rfl⟩
        · intro a w hx hA hdp
          replace hF := hA _ hF
          replace hS := hS.ext hx
          exact ⟨_, rfl, sx_gv (wanted_none rfl) (gv_strEqlT rfl (hF.t rfl) ((hF.t rfl).trans (hdp _ (List.mem_of_getElem? (i := 2) rfl) (by kernel_rfl))) (xr_byts (Nat.le_refl _)).symm) rfl⟩
        · intro a w hx hA hdp
          replace hF := hA _ hF
          replace hS := hS.ext hx
          exact ⟨_, rfl, sx_gv (wanted_none rfl) (gv_assign rfl ((hF.t rfl).trans (hdp _ (List.mem_of_getElem? (i := 3) rfl) (by kernel_rfl)))) rfl⟩
        replace hF := hA _ hF
        replace hS := hS.ext hx
        clear hA hx
        refine run_done (by decide) ?_
        refine then_normal (hKq27 _ _ ?_)
        refine wp_ret ?_
        refine ret1 (fn := Try.f4) (t := 6) hF rfl rfl ?_
        exact ⟨by rw [hR _ (List.mem_of_getElem? (i := 4) rfl)], hS.toExt (nw_cons rfl (nw_cons rfl (nw_cons rfl (nw_cons rfl nw_nil))))⟩


end Go.Proofs.Ytfhalnobaeogkaa

/- What is proved: the contract of the write of VaultRuns' own disk, and of a record's other form. -/
import Derived.Test.YtfhalnobaeogkaaDoorProg
import Derived.Test.YtfhalnobaeogkaaDoorFwSep
import Derived.KernelRfl
import Derived.Test.YtfhalnobaeogkaaDoorFwSto
import Derived.Test.YtfhalnobaeogkaaDoorFwVlt
import Derived.Test.YtfhalnobaeogkaaDoorFwApp
import Derived.Test.YtfhalnobaeogkaaDoorFwWord
import Derived.Test.YtfhalnobaeogkaaDoorFwPkt
import Derived.Test.YtfhalnobaeogkaaDoorFwTok
import Derived.Test.YtfhalnobaeogkaaDoorDig
import Derived.Test.YtfhalnobaeogkaaDoorSum
import Derived.Test.YtfhalnobaeogkaaDoorWire
import Derived.Test.YtfhalnobaeogkaaDoorPktW
import Derived.Test.YtfhalnobaeogkaaDoorPktR
import Derived.Test.YtfhalnobaeogkaaDoorWireA
import Derived.Test.YtfhalnobaeogkaaDoorDisk
import Derived.Test.YtfhalnobaeogkaaDoorFwZer
import Derived.Test.YtfhalnobaeogkaaDoorFwSeq
import Derived.Test.YtfhalnobaeogkaaDoorWireA
import Derived.Test.YtfhalnobaeogkaaDoorHead
import Derived.Test.YtfhalnobaeogkaaDoorHalf
import Derived.Test.YtfhalnobaeogkaaDoorOpen
import Derived.Test.YtfhalnobaeogkaaDoorSave
import Derived.Test.YtfhalnobaeogkaaDoorVPure
import Derived.Test.YtfhalnobaeogkaaDoorRefH
import Derived.Test.YtfhalnobaeogkaaDoorRefSum
import Derived.Test.YtfhalnobaeogkaaDoorRefCur
import Derived.Test.YtfhalnobaeogkaaDoorRefBy
import Derived.Test.YtfhalnobaeogkaaDoorRefIm
import Derived.Test.YtfhalnobaeogkaaDoorRefHf
import Derived.Test.YtfhalnobaeogkaaDoorRefNw
import Derived.Test.YtfhalnobaeogkaaDoorRefLaw
import Derived.Test.YtfhalnobaeogkaaDoorLawVN
import Derived.Test.YtfhalnobaeogkaaDoorLawVF
import Derived.Test.YtfhalnobaeogkaaDoorFwFun
import Derived.Test.YtfhalnobaeogkaaDoorVCrash
import Derived.Test.YtfhalnobaeogkaaDoorVRunP
set_option linter.unusedVariables false
set_option linter.unusedSimpArgs false
namespace Go.Proofs.YtfhalnobaeogkaaDoor
open Go Go.RowKit Go.Fw



theorem of_ok {al cl : List UInt8} {p : Bool} {w0 : World} :
  Calls Tryd.prog 35 #[recV al cl p] w0 fun e w' => e = .returned (recV al cl p) ∧ Ext w0 w' := by
 refine calls_start 10 Tryd.func35 rfl Tryd.ntmps35 rfl fun a hF => ?_
 have hS := St.refl w0
 refine wp_seq_k fun Kq1 hKq1 => ?_
 refine wp_region_lit ?_
 refine wpList_stp (stp_box (cs := [sV al, sV cl, .bool p]) hF (wanted_none rfl) rfl rfl rfl (hF.t rfl) rfl hS fun rx a w hF hS => ?_)
 refine wpList_stp (stp_alloc hF (wanted_none rfl) rfl rfl rfl Tryd.zv75 rfl hS fun out a w hF hS => ?_)
 refine wpList_nil ?_
 refine then_normal (hKq1 _ _ ?_)
 refine wp_seq_k fun Kq2 hKq2 => ?_
 refine wp_region_lit ?_
 refine wpList_stp (stp_gv hF (wanted_none rfl) rfl rfl (gv_field (r := 0) rfl Tryd.underlying63 rfl rfl Tryd.sz9 (by decide) (hF.t rfl)) fun a hF => ?_)
 refine wpList_stp (stp_gv hF (wanted_none rfl) rfl rfl (gv_load rfl Tryd.underlying9 rfl (hF.t rfl) (cell_ix (j := 0) (hS.cell (k := 1) rfl (rfl)) (by omega))) fun a hF => ?_)
 refine wpList_stp (stp_gv hF (wanted_none rfl) rfl rfl (gv_field (r := 1) rfl Tryd.underlying63 rfl rfl Tryd.sz9 (by decide) (hF.t rfl)) fun a hF => ?_)
 refine wpList_stp (stp_gv hF (wanted_none rfl) rfl rfl (gv_load rfl Tryd.underlying9 rfl (hF.t rfl) (cell_ix (j := 1) (hS.cell (k := 1) rfl (rfl)) (by omega))) fun a hF => ?_)
 refine wpList_stp (stp_gv hF (wanted_none rfl) rfl rfl (gv_field (r := 2) rfl Tryd.underlying63 rfl rfl Tryd.sz4 (by decide) (hF.t rfl)) fun a hF => ?_)
 refine wpList_stp (stp_gv hF (wanted_none rfl) rfl rfl (gv_load rfl Tryd.underlying4 rfl (hF.t rfl) (cell_ix (j := 2) (hS.cell (k := 1) rfl (rfl)) (by omega))) fun a hF => ?_)
 refine wpList_stp (stp_gv hF (wanted_none rfl) rfl rfl (gv_build rfl (EvP.map (EvP.cons (hF.t rfl) (EvP.cons (hF.t rfl) (EvP.cons (hF.t rfl) EvP.nil)))) (build_rrec _ _ _ _)) fun a hF => ?_)
 refine wpList_stp (stp_storeAll hF (wanted_none rfl) rfl rfl (Tryd.sz75.trans (congrArg some (rfl))) (hF.t rfl) (hF.t rfl) ((by intro u hu; simp at hu; rcases hu with rfl | rfl | rfl <;> rfl)) hS (k := 0) rfl (rfl) fun w hS => ?_)
 refine wpList_nil ?_
 refine then_normal (hKq2 _ _ ?_)
 refine wp_ret ?_
 refine retCell (fn := Tryd.f35) (vs := [sV al, sV cl, .bool p]) hF rfl Tryd.underlying75 rfl Tryd.sz75 rfl hS (k := 0) rfl ⟨rfl, hS.toExt (nw_cons rfl (nw_cons rfl nw_nil))⟩

theorem shw_ok {w00 w : World} {T : List Ent} {sd sf sb st bb n i : Nat} {D : Dk} {pv : Value} {x : List UInt8} (hT : ∀ e ∈ T, e.nw = true) (hS : St w00 w (⟨true, some sd, blk 4 [.bool (D).dead]⟩ :: ⟨true, some sf, blk 3 [.int .i64 (D).fuel]⟩ :: ⟨true, some sb, blk 22 [.slice (some ⟨bb, 0, none⟩) (64 * n) (64 * n)]⟩ :: ⟨true, some st, blk 3 [vI (D).torn]⟩ :: ⟨true, some bb, blk 5 ((D).l.map vB ++ [])⟩ :: T)) (hK : DkOk n D) (hi : i < n) (hr : SRd w00 T pv (x.map vB)) (hx : x.length = 64) :
  Calls Tryd.prog 37 #[vI i, pv, .pointer (some ⟨sd, 0, none⟩), .pointer (some ⟨sf, 0, none⟩), .pointer (some ⟨sb, 0, none⟩), .pointer (some ⟨st, 0, none⟩)] w fun e w' => e = .returned (.bool (decide ((wrF D n (i : Int) x).1 = 0))) ∧ St w00 w' (⟨true, some sd, blk 4 [.bool ((wrF D n (i : Int) x).2).dead]⟩ :: ⟨true, some sf, blk 3 [.int .i64 ((wrF D n (i : Int) x).2).fuel]⟩ :: ⟨true, some sb, blk 22 [.slice (some ⟨bb, 0, none⟩) (64 * n) (64 * n)]⟩ :: ⟨true, some st, blk 3 [vI ((wrF D n (i : Int) x).2).torn]⟩ :: ⟨true, some bb, blk 5 (((wrF D n (i : Int) x).2).l.map vB ++ [])⟩ :: T) := by
 obtain ⟨hl, hn4, hn1, hf0, hf1, htn⟩ := hK
 obtain ⟨A, c, rfl, hc1, hc2, _⟩ := (hr w _ hS (nw_cons rfl (nw_cons rfl (nw_cons rfl (nw_cons rfl (nw_cons rfl hT))))) (fun e he => List.mem_cons_of_mem _ (List.mem_cons_of_mem _ (List.mem_cons_of_mem _ (List.mem_cons_of_mem _ (List.mem_cons_of_mem _ he)))))).isB
 rw [hx] at hr hc1 ⊢
 refine calls_start 37 Tryd.func37 rfl Tryd.ntmps37 rfl fun a hF => ?_
 refine wp_seq_k fun Kq1 hKq1 => ?_
 refine wp_region_lit ?_
 refine wpList_stp (stp_gv hF (wanted_none rfl) rfl rfl (gv_assign rfl (ev_const _ _)) fun a hF => ?_)
 refine wpList_nil ?_
 refine then_normal (hKq1 _ _ ?_)
 refine wp_seq_k fun Kq2 hKq2 => ?_
 refine wp_seq_k fun Kq3 hKq3 => ?_
 refine wp_region_lit ?_
 refine wpList_stp (stp_gv hF (wanted_none rfl) rfl rfl (gv_load rfl Tryd.underlying4 rfl (hF.t rfl) (cell_ix (j := 0) (hS.cell (k := 0) rfl (rfl)) (by omega))) fun a hF => ?_)
 refine wpList_nil ?_
 refine then_normal (hKq3 _ _ ?_)
 refine cond_bool (hF.t rfl) (fun h9 => ?_) (fun h9 => ?_)
 ·
  refine wp_seq_k fun Kq4 hKq4 => ?_
  refine wp_region_lit ?_
  refine wpList_stp (stp_gv hF (wanted_none rfl) rfl rfl (gv_assign rfl (ev_const _ _)) fun a hF => ?_)
  refine wpList_nil ?_
  refine then_normal (hKq4 _ _ ?_)
  refine wp_ret ?_
  refine then_ret ?_
  refine ret1 (fn := Tryd.f37) (t := 8) hF rfl rfl ?_
  have hw : wrF D n (i : Int) x = (20, D) := by rw [wrF, if_neg (by omega), if_pos h9]
  rw [hw]
  exact ⟨rfl, hS⟩
 ·
  refine wp_skip ?_
  refine then_normal (hKq2 _ _ ?_)
  refine wp_seq_k fun Kq5 hKq5 => ?_
  refine wp_seq_k fun Kq6 hKq6 => ?_
  refine wp_region_lit ?_
  refine wpList_stp (stp_gv hF (wanted_none rfl) rfl rfl (gv_load rfl Tryd.underlying3 rfl (hF.t rfl) (cell_ix (j := 0) (hS.cell (k := 1) rfl (rfl)) (by omega))) fun a hF => ?_)
  refine wpList_stp (stp_gv hF (wanted_none rfl) rfl rfl (gv_eql rfl (hF.t rfl) (ev_const _ _)) fun a hF => ?_)
  refine wpList_nil ?_
  refine then_normal (hKq6 _ _ ?_)
  refine cond_dec (hF.t rfl) (fun h11 => ?_) (fun h11 => ?_)
  ·
   refine wp_seq_k fun Kq7 hKq7 => ?_
   refine Fw.wp_region_draw (by kernel_rfl) fun w hx => ?_
   replace hS := hS.ext hx
   clear hx
   refine run_head0 (n := 11) _ hF (by kernel_rfl) rfl ?_
   refine dw_gv hF rfl (wanted_none rfl) rfl rfl (fun w hx => gv_load rfl Tryd.underlying22 rfl (hF.t rfl) (cell_ix (j := 0) ((hS.ext hx).cell (k := 2) rfl (rfl)) (by omega))) fun a hF => ?_
   refine dw_gv hF rfl (wanted_none rfl) rfl rfl (fun w hx => gv_move rfl (hF.t rfl)) fun a hF => ?_
   refine dw_gv hF rfl (wanted_none rfl) rfl rfl (fun w hx => gv_nmul (m := 64) rfl rfl (hF.t rfl) (by omega)) fun a hF => ?_
   refine dw_gv hF rfl (wanted_none rfl) rfl rfl (fun w hx => gv_move rfl (hF.t rfl)) fun a hF => ?_
   refine dw_gv hF rfl (wanted_none rfl) rfl rfl (fun w hx => gv_nmul (m := 64) rfl rfl (hF.t rfl) (by omega)) fun a hF => ?_
   refine dw_gv hF rfl (wanted_none rfl) rfl rfl (fun w hx => gv_load rfl Tryd.underlying3 rfl (hF.t rfl) (cell_ix (j := 0) ((hS.ext hx).cell (k := 3) rfl (rfl)) (by omega))) fun a hF => ?_
   refine dw_gv hF rfl (wanted_none rfl) rfl rfl (fun w hx => gv_nadd rfl (hF.t rfl) (hF.t rfl) (by omega)) fun a hF => ?_
   refine dw_gv hF rfl (wanted_none rfl) rfl rfl (fun w hx => gv_slice2 rfl Tryd.underlying22 Tryd.sz5 (hF.t rfl) (hF.t rfl) (hF.t rfl) (by omega) (by omega)) fun a hF => ?_
   rw [cut3V_in (by omega), show 64 * i + D.torn - 64 * i = D.torn by omega] at hF
   refine dw_gv hF rfl (wanted_none rfl) rfl rfl (fun w hx => gv_move rfl (hF.t rfl)) fun a hF => ?_
   refine dw_gv hF rfl (wanted_none rfl) rfl rfl (fun w hx => gv_load rfl Tryd.underlying3 rfl (hF.t rfl) (cell_ix (j := 0) ((hS.ext hx).cell (k := 3) rfl (rfl)) (by omega))) fun a hF => ?_
   refine dw_gv hF rfl (wanted_none rfl) rfl rfl (fun w hx => gv_sliceHi rfl Tryd.underlying22 Tryd.sz5 (hF.t rfl) (hF.t rfl) (by omega)) fun a hF => ?_
   refine dw_nil fun a w hA hx => ?_
   replace hF := hA _ hF
   replace hS := hS.ext hx
   clear hA hx
   have htl : (x.take D.torn).length = D.torn := by rw [List.length_take]; omega
   have hR : Rd w (.slice A D.torn c) ((x.take D.torn).map vB) := by
    rw [List.map_take]
    exact (SRd.cutHi hr htn) w _ hS (nw_cons rfl (nw_cons rfl (nw_cons rfl (nw_cons rfl (nw_cons rfl hT))))) (fun e he => List.mem_cons_of_mem _ (List.mem_cons_of_mem _ (List.mem_cons_of_mem _ (List.mem_cons_of_mem _ (List.mem_cons_of_mem _ he)))))
   rw [← htl] at hR
   refine run_stp (by kernel_rfl) rfl (stp_copyAt (k := 4) (n := D.torn) (ml := x.take D.torn) hF (wanted_none rfl) rfl rfl rfl Tryd.underlying22 Tryd.sz5 (hF.t rfl) (hF.t rfl) hS rfl (by rw [List.length_append, List.length_map]; show 0 + 64 * i + D.torn ≤ D.l.length + 0; omega) (by rw [← htl]; exact hR) fun a w hF hS => ?_)
   rw [show min (x.take D.torn).length D.torn = (x.take D.torn).length by omega, List.take_of_length_le (show (x.take D.torn).length ≤ D.torn by omega), show 0 + 64 * i = 64 * i by omega] at hS
   rw [putL_map (by rw [htl]; omega)] at hS
   refine run_done (by decide) ?_
   refine then_normal (hKq7 _ _ ?_)
   refine wp_seq_k fun Kq8 hKq8 => ?_
   refine wp_region_lit ?_
   refine wpList_stp (stp_storeAt (0) hF (wanted_none rfl) rfl rfl Tryd.sz4 (hF.t rfl) (by omega) (ev_const _ _) rfl hS (k := 0) rfl (by simp) fun w hS => ?_)
   refine wpList_nil ?_
   refine then_normal (hKq8 _ _ ?_)
   refine wp_seq_k fun Kq9 hKq9 => ?_
   refine wp_region_lit ?_
   refine wpList_stp (stp_gv hF (wanted_none rfl) rfl rfl (gv_assign rfl (ev_const _ _)) fun a hF => ?_)
   refine wpList_nil ?_
   refine then_normal (hKq9 _ _ ?_)
   refine wp_ret ?_
   refine then_ret ?_
   refine ret1 (fn := Tryd.f37) (t := 8) hF rfl rfl ?_
   have hw : wrF D n (i : Int) x = (20, { D with l := putL D.l (64 * i) (x.take D.torn), dead := true }) := by rw [wrF, if_neg (by omega), if_neg (by rw [h9]; exact Bool.false_ne_true), if_pos h11]; rfl
   rw [hw]
   exact ⟨rfl, hS⟩
  ·
   refine wp_skip ?_
   refine then_normal (hKq5 _ _ ?_)
   refine wp_cut (fun a w => ∃ f : Int, f = (if 0 < D.fuel then D.fuel - 1 else D.fuel) ∧ Fr 37 a [(0, vI i), (1, .slice A 64 c), (4, .pointer (some ⟨sb, 0, none⟩))] ∧ St w00 w (⟨true, some sd, blk 4 [.bool ({ D with fuel := f }).dead]⟩ :: ⟨true, some sf, blk 3 [.int .i64 ({ D with fuel := f }).fuel]⟩ :: ⟨true, some sb, blk 22 [.slice (some ⟨bb, 0, none⟩) (64 * n) (64 * n)]⟩ :: ⟨true, some st, blk 3 [vI ({ D with fuel := f }).torn]⟩ :: ⟨true, some bb, blk 5 (({ D with fuel := f }).l.map vB ++ [])⟩ :: T)) ?_ ?_
   ·
    refine wp_seq_k fun Kq10 hKq10 => ?_
    refine wp_region_lit ?_
    refine wpList_stp (stp_gv hF (wanted_none rfl) rfl rfl (gv_load rfl Tryd.underlying3 rfl (hF.t rfl) (cell_ix (j := 0) (hS.cell (k := 1) rfl (rfl)) (by omega))) fun a hF => ?_)
    refine wpList_stp (stp_gv hF (wanted_none rfl) rfl rfl (gv_gtr rfl (hF.t rfl) (ev_const _ _)) fun a hF => ?_)
    refine wpList_nil ?_
    refine then_normal (hKq10 _ _ ?_)
    refine cond_dec (hF.t rfl) (fun h25 => ?_) (fun h25 => ?_)
    ·
     refine wp_region_lit ?_
     refine wpList_stp (stp_gv hF (wanted_none rfl) rfl rfl (gv_load rfl Tryd.underlying3 rfl (hF.t rfl) (cell_ix (j := 0) (hS.cell (k := 1) rfl (rfl)) (by omega))) fun a hF => ?_)
     refine wpList_stp (stp_gv hF (wanted_none rfl) rfl rfl (gv_sub rfl (hF.t rfl) (ev_const _ _) (by omega) (by omega)) fun a hF => ?_)
     refine wpList_stp (stp_storeAt (0) hF (wanted_none rfl) rfl rfl Tryd.sz3 (hF.t rfl) (by omega) (hF.t rfl) rfl hS (k := 1) rfl (by simp) fun w hS => ?_)
     refine wpList_nil ?_
     refine then_normal ?_
     exact ⟨_, (if_pos h25).symm, hF.sub ⟨rfl, rfl, rfl, trivial⟩, hS⟩
    ·
     refine wp_skip ?_
     refine then_normal ?_
     exact ⟨_, (if_neg h25).symm, hF.sub ⟨rfl, rfl, rfl, trivial⟩, hS⟩
   ·
    rintro a w ⟨f, hf, hF, hS⟩
    refine wp_seq_k fun Kq11 hKq11 => ?_
    refine wp_region_lit ?_
    refine wpList_stp (stp_gv hF (wanted_none rfl) rfl rfl (gv_load rfl Tryd.underlying22 rfl (hF.t rfl) (cell_ix (j := 0) (hS.cell (k := 2) rfl (rfl)) (by omega))) fun a hF => ?_)
    refine wpList_stp (stp_gv hF (wanted_none rfl) rfl rfl (gv_move rfl (hF.t rfl)) fun a hF => ?_)
    refine wpList_stp (stp_gv hF (wanted_none rfl) rfl rfl (gv_nmul (m := 64) rfl rfl (hF.t rfl) (by omega)) fun a hF => ?_)
    refine wpList_stp (stp_gv hF (wanted_none rfl) rfl rfl (gv_move rfl (hF.t rfl)) fun a hF => ?_)
    refine wpList_stp (stp_gv hF (wanted_none rfl) rfl rfl (gv_nmul (m := 64) rfl rfl (hF.t rfl) (by omega)) fun a hF => ?_)
    refine wpList_stp (stp_gv hF (wanted_none rfl) rfl rfl (gv_nadd (n := 64) rfl (hF.t rfl) rfl (by omega)) fun a hF => ?_)
    refine wpList_stp (stp_gv hF (wanted_none rfl) rfl rfl (gv_slice2 rfl Tryd.underlying22 Tryd.sz5 (hF.t rfl) (hF.t rfl) (hF.t rfl) (by omega) (by omega)) fun a hF => ?_)
    rw [cut3V_in (by omega), show 64 * i + 64 - 64 * i = 64 by omega] at hF
    refine wpList_stp (stp_gv hF (wanted_none rfl) rfl rfl (gv_move rfl (hF.t rfl)) fun a hF => ?_)
    have hR : Rd w (.slice A x.length c) (x.map vB) := by
     rw [hx]
     exact hr w _ hS (nw_cons rfl (nw_cons rfl (nw_cons rfl (nw_cons rfl (nw_cons rfl hT))))) (fun e he => List.mem_cons_of_mem _ (List.mem_cons_of_mem _ (List.mem_cons_of_mem _ (List.mem_cons_of_mem _ (List.mem_cons_of_mem _ he)))))
    refine wpList_stp (stp_copyAt (k := 4) (n := 64) (ml := x) hF (wanted_none rfl) rfl rfl rfl Tryd.underlying22 Tryd.sz5 (hF.t rfl) (hF.t rfl) hS rfl (by rw [List.length_append, List.length_map]; show 0 + 64 * i + 64 ≤ D.l.length + 0; omega) (by rw [← hx]; exact hR) fun a w hF hS => ?_)
    rw [show min x.length 64 = x.length by omega, List.take_of_length_le (show x.length ≤ 64 by omega), show 0 + 64 * i = 64 * i by omega] at hS
    rw [putL_map (by rw [hx]; show 64 * i + 64 ≤ D.l.length; omega)] at hS
    refine wpList_nil ?_
    refine then_normal (hKq11 _ _ ?_)
    refine wp_seq_k fun Kq12 hKq12 => ?_
    refine wp_region_lit ?_
    refine wpList_stp (stp_gv hF (wanted_none rfl) rfl rfl (gv_assign rfl (ev_const _ _)) fun a hF => ?_)
    refine wpList_nil ?_
    refine then_normal (hKq12 _ _ ?_)
    refine wp_ret ?_
    refine ret1 (fn := Tryd.f37) (t := 8) hF rfl rfl ?_
    have hw : wrF D n (i : Int) x = (0, { D with l := putL D.l (64 * i) x, fuel := f }) := by rw [wrF, if_neg (by omega), if_neg (by rw [h9]; exact Bool.false_ne_true), if_neg h11, hf]; rfl
    rw [hw]
    exact ⟨rfl, hS⟩


end Go.Proofs.YtfhalnobaeogkaaDoor

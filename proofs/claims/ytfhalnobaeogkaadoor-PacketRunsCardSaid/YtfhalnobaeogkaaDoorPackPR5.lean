/- What is proved: lemmas and contracts, part 5 of what the theorem of YtfhalnobaeogkaaDoorPackPR leans on. No further condition. -/
import Derived.Test.YtfhalnobaeogkaaDoorProg
import Derived.Test.YtfhalnobaeogkaaDoorRows
import Derived.Below
import Derived.ChangeOld
import Derived.Deep.SlicePairs
import Derived.Deep.Slices
import Derived.Great.BuildSlice
import Derived.KernelRfl
import Derived.LaidMore
import Derived.Laws.Build
import Derived.Laws.BytesArg
import Derived.Laws.IdiomCopy
import Derived.Laws.StructEq
import Derived.Lib.ConvBytes
import Derived.Maps.AppendAt
import Derived.OpenShut
import Derived.ProofKit
import Derived.SevenTiedAt
import Derived.ShutString
import Derived.SizedLaws
import Derived.Stop.BytesEq
import Derived.Stop.Joined
import Derived.WalkKit
import Derived.Test.YtfhalnobaeogkaaDoorPackPR1
import Derived.Test.YtfhalnobaeogkaaDoorPackPR2
import Derived.Test.YtfhalnobaeogkaaDoorPackPR3
import Derived.Test.YtfhalnobaeogkaaDoorPackPR4
set_option linter.unusedVariables false
set_option linter.unusedSimpArgs false
namespace Go.Proofs.YtfhalnobaeogkaaDoor
open Go Go.RowKit Go.Fw
theorem z50 : (Tryd.prog.info? 50).map (·.size) = some 6 := by kernel_rfl
theorem rnext_dead {r : Nat} {w0 : World} (h : w0.cell? ⟨r, 8, none⟩ = some (.bool true)) :
  Calls Tryd.prog 58 #[.pointer (some ⟨r, 0, none⟩)] w0 fun e w' => e = .returned (.tuple #[.slice none 0 0, vI 9]) ∧ Ext w0 w' := by
 refine calls_start 215 Tryd.func58 rfl Tryd.ntmps58 rfl fun a hF => ?_
 refine wK fun Kq1 hKq1 => ?_
 refine wR ?_
 refine wg hF rfl rfl rfl (gv_assign rfl (ev_const _ _)) fun a hF => ?_
 refine wg hF rfl rfl rfl (gv_assign rfl (ev_const _ _)) fun a hF => ?_
 refine wN ?_
 refine tN (hKq1 _ _ ?_)
 refine wK fun Kq2 hKq2 => ?_
 refine wK fun Kq3 hKq3 => ?_
 refine wR ?_
 refine wg hF rfl rfl rfl (gv_move rfl (hF.t rfl)) fun a hF => ?_
 refine wg hF rfl rfl rfl (gv_nilCheck rfl (hF.t rfl)) fun a hF => ?_
 refine wg hF rfl rfl rfl (gv_field (r := 8) rfl u53 rfl rfl z4 (by decide) (hF.t rfl)) fun a hF => ?_
 refine wg hF rfl rfl rfl (gv_load rfl u4 rfl (hF.t rfl) (cell_ix h (by omega))) fun a hF => ?_
 refine wN ?_
 refine tN (hKq3 _ _ ?_)
 refine wp_cond_true (hF.t rfl) ?_
 refine wK fun Kq4 hKq4 => ?_
 refine wR ?_
 refine wg hF rfl rfl rfl (gv_assign rfl (ev_const _ _)) fun a hF => ?_
 refine wg hF rfl rfl rfl (gv_assign rfl (ev_const _ _)) fun a hF => ?_
 refine wN ?_
 refine tN (hKq4 _ _ ?_)
 refine wp_ret ?_
 refine then_ret ?_
 refine ret2 (fn := Tryd.f58) (t := 2) (u := 3) hF rfl rfl rfl ?_
 exact ⟨rfl, Ext.refl _⟩
set_option maxHeartbeats 1000000 in
theorem rnext_nil {w00 w : World} {T0 T : List Ent} {r at_ sq n kc : Nat} {iv mv bv hv : Value} {B : List UInt8} {ho : Option (List UInt8)} (h0 : ∀ e ∈ T0, e ∈ T) (hT : ∀ e ∈ T, e.nw = true) (hS : St w00 w (rdE r (.slice none 0 kc) iv mv at_ sq n (bv) (hv) false :: T)) (hB : SRd w00 T0 bv (B.map vB)) (hh : HdV w00 T0 hv 8 ho) (hBl : B.length ≤ 100000) (hat : at_ ≤ 1000000000) (hsq : sq < 4294967295) (hn : n ≤ 4611686018427387904) :
  Calls Tryd.prog 58 #[.pointer (some ⟨r, 0, none⟩)] w (NextP w00 T0 T r (.slice none 0 kc) iv mv 8 (nextQ ⟨none, at_, sq, n, B, ho, false⟩)) := by
 have hB0 := hB
 replace hB := hB0.mono h0
 obtain ⟨Ab, cb, rfl, hcb, _, _⟩ := (hB w _ hS (nw_cons rfl hT) (fun e he => List.mem_cons_of_mem _ (he))).isB
 refine calls_start 215 Tryd.func58 rfl Tryd.ntmps58 rfl fun a hF => ?_
 refine wK fun Kq1 hKq1 => ?_
 refine wR ?_
 refine wg hF rfl rfl rfl (gv_assign rfl (ev_const _ _)) fun a hF => ?_
 refine wg hF rfl rfl rfl (gv_assign rfl (ev_const _ _)) fun a hF => ?_
 refine wN ?_
 refine tN (hKq1 _ _ ?_)
 refine wK fun Kq2 hKq2 => ?_
 refine wK fun Kq3 hKq3 => ?_
 refine wR ?_
 refine wg hF rfl rfl rfl (gv_move rfl (hF.t rfl)) fun a hF => ?_
 refine wg hF rfl rfl rfl (gv_nilCheck rfl (hF.t rfl)) fun a hF => ?_
 refine wg hF rfl rfl rfl (gv_field (r := 8) rfl u53 rfl rfl z4 (by decide) (hF.t rfl)) fun a hF => ?_
 refine wg hF rfl rfl rfl (gv_load rfl u4 rfl (hF.t rfl) (cell_ix (j := 8) (hS.cell (k := 0) rfl (rfl)) (by omega))) fun a hF => ?_
 refine wN ?_
 refine tN (hKq3 _ _ ?_)
 refine wp_cond_false (hF.t rfl) ?_
 refine wp_skip ?_
 refine tN (hKq2 _ _ ?_)
 refine wK fun Kq4 hKq4 => ?_
 refine wR ?_
 refine wg hF rfl rfl rfl (gv_move rfl (hF.t rfl)) fun a hF => ?_
 refine wg hF rfl rfl rfl (gv_nilCheck rfl (hF.t rfl)) fun a hF => ?_
 refine wg hF rfl rfl rfl (gv_field (r := 0) rfl u53 rfl rfl z50 (by decide) (hF.t rfl)) fun a hF => ?_
 refine wpList_stp (stp_call hF (wanted_none rfl) rfl rfl Tryd.ok53 rfl (Evs.cons (hF.t rfl) Evs.nil) (hunit_nil (hS.cell (k := 0) (i := 0) rfl rfl)) fun e w h => ?_)
 obtain ⟨rfl, hx⟩ := h
 refine ⟨_, rfl, fun a hF => ?_⟩
 replace hS := hS.ext hx
 clear hx
 refine wg hF rfl rfl rfl (gv_assign rfl (hF.t rfl)) fun a hF => ?_
 refine wN ?_
 refine tN (hKq4 _ _ ?_)
 refine wp_cut (fun a w => ∃ (hl : List UInt8) (hv bv : Value) (B1 : List UInt8) (at1 : Nat) (Y : List Ent), hl.length = 8 ∧ (∀ e ∈ Y, e.nw = true) ∧ B1.length ≤ 100000 ∧ at1 ≤ 1000000016 ∧ SRd w00 (T0 ++ Y) hv (hl.map vB) ∧ SRd w00 (T0 ++ Y) bv (B1.map vB) ∧ nextQ ⟨none, at_, sq, n, B, ho, false⟩ = step2 ⟨none, at1, sq, n, B1, none, false⟩ hl ∧ Fr 215 a [(0, .pointer (some ⟨r, 0, none⟩)), (4, vI 8)] ∧ St w00 w (rdE r (.slice none 0 kc) iv mv at1 sq n (bv) (hv) false :: (T ++ Y))) ?_ ?_
 ·
  rcases ho with _ | hl
  ·
   obtain rfl : hv = .slice none 0 0 := hh
   refine wK fun Kq5 hKq5 => ?_
   refine wR ?_
   refine wg hF rfl rfl rfl (gv_move rfl (hF.t rfl)) fun a hF => ?_
   refine wg hF rfl rfl rfl (gv_nilCheck rfl (hF.t rfl)) fun a hF => ?_
   refine wg hF rfl rfl rfl (gv_field (r := 7) rfl u53 rfl rfl z22 (by decide) (hF.t rfl)) fun a hF => ?_
   refine wg hF rfl rfl rfl (gv_load rfl u22 rfl (hF.t rfl) (cell_ix (j := 7) (hS.cell (k := 0) rfl (rfl)) (by omega))) fun a hF => ?_
   refine wg hF rfl rfl rfl (gv_eqlNilS rfl u22 (hF.t rfl) (ev_const _ _)) fun a hF => ?_
   refine wN ?_
   refine tN (hKq5 _ _ ?_)
   refine wp_cond_true (hF.t rfl) ?_
   refine wK fun Kq6 hKq6 => ?_
   refine wK fun Kq7 hKq7 => ?_
   refine wR ?_
   refine wg hF rfl rfl rfl (gv_move rfl (hF.t rfl)) fun a hF => ?_
   refine wg hF rfl rfl rfl (gv_nilCheck rfl (hF.t rfl)) fun a hF => ?_
   refine wg hF rfl rfl rfl (gv_field (r := 6) rfl u53 rfl rfl z22 (by decide) (hF.t rfl)) fun a hF => ?_
   refine wg hF rfl rfl rfl (gv_load rfl u22 rfl (hF.t rfl) (cell_ix (j := 6) (hS.cell (k := 0) rfl (rfl)) (by omega))) fun a hF => ?_
   refine wg hF rfl rfl rfl (gv_len rfl u22 (hF.t rfl)) fun a hF => ?_
   refine wg hF rfl rfl rfl (gv_move rfl (hF.t rfl)) fun a hF => ?_
   refine wg hF rfl rfl rfl (gv_lss rfl (hF.t rfl) (hF.t rfl)) fun a hF => ?_
   refine wN ?_
   refine tN (hKq7 _ _ ?_)
   refine cond_dec (hF.t rfl) (fun h30 => ?_) (fun h30 => ?_)
   ·
    refine wK fun Kq8 hKq8 => ?_
    refine wR ?_
    refine wg hF rfl rfl rfl (gv_assign rfl (ev_const _ _)) fun a hF => ?_
    refine wg hF rfl rfl rfl (gv_assign rfl (ev_const _ _)) fun a hF => ?_
    refine wN ?_
    refine tN (hKq8 _ _ ?_)
    refine wp_ret ?_
    refine then_ret ?_
    refine then_ret ?_
    refine ret2 (fn := Tryd.f58) (t := 2) (u := 3) hF rfl rfl rfl ?_
    rw [nextQ, if_neg Bool.false_ne_true]
    show NextP _ _ _ _ _ _ _ _ (if B.length < 8 then _ else _) _ _
    rw [if_pos (by omega)]
    exact NextP.mk' (List.append_nil T).symm (List.append_nil T0).symm (fun e he => by cases he) (fun e he => by cases he) (stB0 hS) (by rw [List.append_nil]; exact hB0) rfl SRd.nil
   ·
    refine wp_skip ?_
    refine tN (hKq6 _ _ ?_)
    refine wK fun Kq9 hKq9 => ?_
    refine wR ?_
    refine wg hF rfl rfl rfl (gv_move rfl (hF.t rfl)) fun a hF => ?_
    refine wg hF rfl rfl rfl (gv_move rfl (hF.t rfl)) fun a hF => ?_
    refine wg hF rfl rfl rfl (gv_nilCheck rfl (hF.t rfl)) fun a hF => ?_
    refine wg hF rfl rfl rfl (gv_field (r := 6) rfl u53 rfl rfl z22 (by decide) (hF.t rfl)) fun a hF => ?_
    refine wg hF rfl rfl rfl (gv_load rfl u22 rfl (hF.t rfl) (cell_ix (j := 6) (hS.cell (k := 0) rfl (rfl)) (by omega))) fun a hF => ?_
    refine wg hF rfl rfl rfl (gv_move rfl (hF.t rfl)) fun a hF => ?_
    refine wg hF rfl rfl rfl (gv_sliceHi (hi := 8) rfl u22 z5 (hF.t rfl) (hF.t rfl) (by omega)) fun a hF => ?_
    replace hS := hS.addNil (blk 5 (([] : List UInt8).map vB ++ []))
    refine wpList_stp (stp_appB (ob := none) (l := []) (pad := []) (k := 0) hF (wanted_none rfl) rfl rfl rfl u22 Tryd.ty5 rfl (ev_const _ _) (hF.t rfl) hS rfl (fun _ => ⟨rfl, rfl⟩) (by simp) (by rw [List.map_take]; exact (hB.cutHi (hi := 8) (by omega)) w _ hS (nw_cons rfl (nw_cons rfl hT)) (fun e he => List.mem_cons_of_mem _ (List.mem_cons_of_mem _ (he)))) (by rw [List.length_take]; simp only [List.length_nil]; omega) fun hd hdp a w hF hdo hdc hS => ?_)
    simp only [List.nil_append] at hF hdo hdc hS
    have hdl : (B.take 8).length = 8 := by rw [List.length_take]; omega
    obtain ⟨hd, rfl⟩ := own_some hdo (by omega)
    rw [hdl] at hF hdc
    replace hS := hS.move (k := 1) rfl
    simp only [List.set_cons_zero, List.set_cons_succ, List.eraseIdx_cons_succ, List.eraseIdx_cons_zero] at hS
    refine wg hF rfl rfl rfl (gv_nilCheck rfl (hF.t rfl)) fun a hF => ?_
    refine wg hF rfl rfl rfl (gv_field (r := 7) rfl u53 rfl rfl z22 (by decide) (hF.t rfl)) fun a hF => ?_
    refine wpList_stp (stp_storeAt (7) hF (wanted_none rfl) rfl rfl z22 (hF.t rfl) (by omega) (hF.t rfl) rfl hS (k := 0) rfl (by simp) fun w hS => ?_)
    refine wN ?_
    refine tN (hKq9 _ _ ?_)
    refine wK fun Kq10 hKq10 => ?_
    refine wK fun Kq11 hKq11 => ?_
    refine wR ?_
    refine wg hF rfl rfl rfl (gv_move rfl (hF.t rfl)) fun a hF => ?_
    refine wg hF rfl rfl rfl (gv_nilCheck rfl (hF.t rfl)) fun a hF => ?_
    refine wg hF rfl rfl rfl (gv_field (r := 0) rfl u53 rfl rfl z50 (by decide) (hF.t rfl)) fun a hF => ?_
    refine wg hF rfl rfl rfl (gv_field (r := 0) rfl u50 rfl rfl z22 (by decide) (hF.t rfl)) fun a hF => ?_
    refine wg hF rfl rfl rfl (gv_load rfl u22 rfl (hF.t rfl) (cell_ix (j := 0) (hS.cell (k := 0) rfl (rfl)) (by omega))) fun a hF => ?_
    refine wg hF rfl rfl rfl (gv_neqNilS rfl u22 (hF.t rfl) (ev_const _ _)) fun a hF => ?_
    refine wN ?_
    refine tN (hKq11 _ _ ?_)
    refine wp_cond_false (hF.t rfl) ?_
    refine wp_skip ?_
    refine tN (hKq10 _ _ ?_)
    refine wR ?_
    refine wg hF rfl rfl rfl (gv_move rfl (hF.t rfl)) fun a hF => ?_
    refine wg hF rfl rfl rfl (gv_move rfl (hF.t rfl)) fun a hF => ?_
    refine wg hF rfl rfl rfl (gv_nilCheck rfl (hF.t rfl)) fun a hF => ?_
    refine wg hF rfl rfl rfl (gv_field (r := 6) rfl u53 rfl rfl z22 (by decide) (hF.t rfl)) fun a hF => ?_
    refine wg hF rfl rfl rfl (gv_load rfl u22 rfl (hF.t rfl) (cell_ix (j := 6) (hS.cell (k := 0) rfl (rfl)) (by omega))) fun a hF => ?_
    refine wg hF rfl rfl rfl (gv_move rfl (hF.t rfl)) fun a hF => ?_
    refine wg hF rfl rfl rfl (gv_sliceLo (lo := 8) rfl u22 z5 (hF.t rfl) (hF.t rfl) (by omega)) fun a hF => ?_
    refine wg hF rfl rfl rfl (gv_nilCheck rfl (hF.t rfl)) fun a hF => ?_
    refine wg hF rfl rfl rfl (gv_field (r := 6) rfl u53 rfl rfl z22 (by decide) (hF.t rfl)) fun a hF => ?_
    refine wpList_stp (stp_storeAt (6) hF (wanted_none rfl) rfl rfl z22 (hF.t rfl) (by omega) (hF.t rfl) rfl hS (k := 0) rfl (by simp) fun w hS => ?_)
    refine wN ?_
    refine then_normal ?_
    replace hS := hS.move (k := 1) rfl
    simp only [List.set_cons_zero, List.set_cons_succ, List.eraseIdx_cons_succ, List.eraseIdx_cons_zero] at hS
    exact ⟨B.take 8, _, _, B.drop 8, at_, [_], hdl, (nw_cons rfl nw_nil), by rw [List.length_drop]; omega, by omega, own_rd (ob := some hd) (List.mem_append_right _ List.mem_cons_self) (fun h => by cases h) hdl hdc, by rw [List.map_drop]; exact (hB0.cutLo (lo := 8) (by omega)).mono (fun e he => List.mem_append_left _ he), by rw [nextQ, if_neg Bool.false_ne_true]; exact if_neg (by show ¬ B.length < 8; omega), hF.sub ⟨rfl, rfl, trivial⟩, stB1 hS⟩
  ·
   obtain ⟨hhl, hh⟩ := hh
   have hh0 := hh
   replace hh := hh0.mono h0
   obtain ⟨Ah, ch, rfl, _, _, hcl⟩ := (hh w _ hS (nw_cons rfl hT) (fun e he => List.mem_cons_of_mem _ (he))).isB
   obtain ⟨bh, oh, rfl, _⟩ := hcl (by omega)
   refine wK fun Kq12 hKq12 => ?_
   refine wR ?_
   refine wg hF rfl rfl rfl (gv_move rfl (hF.t rfl)) fun a hF => ?_
   refine wg hF rfl rfl rfl (gv_nilCheck rfl (hF.t rfl)) fun a hF => ?_
   refine wg hF rfl rfl rfl (gv_field (r := 7) rfl u53 rfl rfl z22 (by decide) (hF.t rfl)) fun a hF => ?_
   refine wg hF rfl rfl rfl (gv_load rfl u22 rfl (hF.t rfl) (cell_ix (j := 7) (hS.cell (k := 0) rfl (rfl)) (by omega))) fun a hF => ?_
   refine wg hF rfl rfl rfl (gv_eqlNilS rfl u22 (hF.t rfl) (ev_const _ _)) fun a hF => ?_
   refine wN ?_
   refine tN (hKq12 _ _ ?_)
   refine wp_cond_false (hF.t rfl) ?_
   refine wp_skip ?_
   refine then_normal ?_
   exact ⟨hl, _, _, B, at_, [], hhl, (fun e he => by cases he), hBl, by omega, by rw [List.append_nil]; exact hh0, by rw [List.append_nil]; exact hB0, rfl, hF.sub ⟨rfl, rfl, trivial⟩, stB0 hS⟩
 ·
  rintro a w ⟨hl, hv, bv, B1, at1, Y, hhl, hYn, hB1l, hat1, hh, hB1, hst, hF, hS⟩
  obtain ⟨X, hX⟩ : ∃ X, X = T ++ Y := ⟨_, rfl⟩
  obtain ⟨X0, hX0⟩ : ∃ X0, X0 = T0 ++ Y := ⟨_, rfl⟩
  rw [← hX] at hS
  rw [← hX0] at hh hB1
  have hXX : ∀ e ∈ X0, e ∈ X := by
   subst hX hX0
   intro e he
   rcases List.mem_append.1 he with h | h
   ·
    exact List.mem_append_left _ (h0 e h)
   ·
    exact List.mem_append_right _ h
  have hh0 := hh
  replace hh := hh0.mono hXX
  have hB10 := hB1
  replace hB1 := hB10.mono hXX
  have hXn : ∀ e ∈ X, e.nw = true := by rw [hX]; exact nw_app hT hYn
  obtain ⟨Ah, ch, rfl, hhc, _, _⟩ := (hh w _ hS (nw_cons rfl hXn) (fun e he => List.mem_cons_of_mem _ (he))).isB
  obtain ⟨Ab, cb, rfl, hcb, _, _⟩ := (hB1 w _ hS (nw_cons rfl hXn) (fun e he => List.mem_cons_of_mem _ (he))).isB
  obtain ⟨N, hN⟩ : ∃ N, N = (u32A hl 4).toNat := ⟨_, rfl⟩
  have hNl := (u32A hl 4).toNat_lt
  refine wK fun Kq13 hKq13 => ?_
  refine wR ?_
  refine wg hF rfl rfl rfl (gv_move rfl (hF.t rfl)) fun a hF => ?_
  refine wg hF rfl rfl rfl (gv_nilCheck rfl (hF.t rfl)) fun a hF => ?_
  refine wg hF rfl rfl rfl (gv_field (r := 7) rfl u53 rfl rfl z22 (by decide) (hF.t rfl)) fun a hF => ?_
  refine wg hF rfl rfl rfl (gv_load rfl u22 rfl (hF.t rfl) (cell_ix (j := 7) (hS.cell (k := 0) rfl (rfl)) (by omega))) fun a hF => ?_
  refine wg hF rfl rfl rfl (gv_build rfl (EvP.map (EvP.cons (hF.t rfl) EvP.nil)) (build_curQ _)) fun a hF => ?_
  refine wpList_stp (stp_box (cs := [.slice Ah hl.length ch, vI 0, .bool false]) hF (wanted_none rfl) rfl rfl rfl (hF.t rfl) rfl hS fun cu a w hF hS => ?_)
  refine wg hF rfl rfl rfl (gv_assign rfl (hF.t rfl)) fun a hF => ?_
  refine wN ?_
  refine tN (hKq13 _ _ ?_)
  refine wK fun Kq14 hKq14 => ?_
  refine wR ?_
  refine wg hF rfl rfl rfl (gv_move rfl (hF.t rfl)) fun a hF => ?_
  refine wpList_stp (stp_call hF (wanted_none rfl) rfl rfl Tryd.ok74 rfl (Evs.cons (hF.t rfl) Evs.nil) (cu32_all (c := cu) (s := some hl) (bl := hl) (nw_cons rfl hXn) (hh.mono (fun e he => List.mem_cons_of_mem _ (he))) hhc (by omega) ⟨0, by omega, rfl, hS⟩) fun e w h => ?_)
  obtain ⟨rfl, hR⟩ := h
  refine ⟨_, rfl, fun a hF => ?_⟩
  obtain ⟨ci, cbad, hS⟩ := hR.st
  rw [u32R_hd (by omega), ← hN] at hF
  replace hS := hS.drop rfl
  refine wg hF rfl rfl rfl (gv_assign rfl (hF.t rfl)) fun a hF => ?_
  refine wN ?_
  refine tN (hKq14 _ _ ?_)
  refine wK fun Kq15 hKq15 => ?_
  refine wK fun Kq16 hKq16 => ?_
  refine wR ?_
  refine wg hF rfl rfl rfl (gv_move rfl (hF.t rfl)) fun a hF => ?_
  refine wg hF rfl rfl rfl (gv_lss rfl (hF.t rfl) (ev_const _ _)) fun a hF => ?_
  refine wg hF rfl rfl rfl (gv_move rfl (hF.t rfl)) fun a hF => ?_
  refine wpList_stp (stp_gvG' hF rfl rfl rfl rfl rfl (fun hg => gv_move rfl (hF.t rfl)) fun a hF => ?_)
  refine wpList_stp (stp_gvG' hF rfl rfl rfl rfl rfl (fun hg => gv_gtr rfl ((hF.t rfl).trans (if_neg hg)) (ev_const _ _)) fun a hF => ?_)
  refine wg hF rfl rfl rfl (gv_pickOr rfl (hF.t rfl) (ev_const _ _) (hF.t rfl)) fun a hF => ?_
  refine wg hF rfl rfl rfl (gv_move rfl (hF.t rfl)) fun a hF => ?_
  refine wpList_stp (stp_gvG' hF rfl rfl rfl rfl rfl (fun hg => gv_move rfl (hF.t rfl)) fun a hF => ?_)
  refine wpList_stp (stp_gvG' hF rfl rfl rfl rfl rfl (fun hg => gv_nadd (n := 4) rfl ((hF.t rfl).trans (if_neg hg)) rfl (by omega)) fun a hF => ?_)
  refine wpList_stp (stp_gvG' hF rfl rfl rfl rfl rfl (fun hg => gv_move rfl (hF.t rfl)) fun a hF => ?_)
  refine wpList_stp (stp_gvG' hF rfl rfl rfl rfl rfl (fun hg => gv_nrem (n := 8) rfl ((hF.t rfl).trans (if_neg hg)) ((hF.t rfl).trans (if_neg hg)) (by omega)) fun a hF => ?_)
  refine wpList_stp (stp_gvG' hF rfl rfl rfl rfl rfl (fun hg => gv_neq rfl ((hF.t rfl).trans (if_neg hg)) (ev_const _ _)) fun a hF => ?_)
  refine wg hF rfl rfl rfl (gv_pickOr rfl (hF.t rfl) (ev_const _ _) (hF.t rfl)) fun a hF => ?_
  refine wN ?_
  refine tN (hKq16 _ _ ?_)
  refine cond_dec (hF.t rfl) (fun h87 => ?_) (fun h87 => ?_)
  ·
   refine wK fun Kq17 hKq17 => ?_
   refine wR ?_
   refine wg hF rfl rfl rfl (gv_move rfl (hF.t rfl)) fun a hF => ?_
   refine wg hF rfl rfl rfl (gv_nilCheck rfl (hF.t rfl)) fun a hF => ?_
   refine wg hF rfl rfl rfl (gv_field (r := 8) rfl u53 rfl rfl z4 (by decide) (hF.t rfl)) fun a hF => ?_
   refine wpList_stp (stp_storeAt (8) hF (wanted_none rfl) rfl rfl z4 (hF.t rfl) (by omega) (ev_const _ _) rfl hS (k := 0) rfl (by simp) fun w hS => ?_)
   refine wN ?_
   refine tN (hKq17 _ _ ?_)
   refine wK fun Kq18 hKq18 => ?_
   refine wR ?_
   refine wg hF rfl rfl rfl (gv_assign rfl (ev_const _ _)) fun a hF => ?_
   refine wg hF rfl rfl rfl (gv_assign rfl (ev_const _ _)) fun a hF => ?_
   refine wN ?_
   refine tN (hKq18 _ _ ?_)
   refine wp_ret ?_
   refine then_ret ?_
   refine ret2 (fn := Tryd.f58) (t := 2) (u := 3) hF rfl rfl rfl ?_
   rw [hst, step2, if_pos (by show (((u32A hl 4).toNat < 5 ∨ 2348 < (u32A hl 4).toNat) ∨ ¬ ((u32A hl 4).toNat + 4) % 8 = 0); omega)]
   exact NextP.mk' hX hX0 hYn (fun e he => by cases he) (stB0 hS) (by rw [List.append_nil]; exact hB10) (by rw [List.append_nil]; exact ⟨hhl, hh0⟩) SRd.nil
  ·
   refine wp_skip ?_
   refine tN (hKq15 _ _ ?_)
   refine wK fun Kq19 hKq19 => ?_
   refine wR ?_
   refine wg hF rfl rfl rfl (gv_move rfl (hF.t rfl)) fun a hF => ?_
   refine wg hF rfl rfl rfl (gv_nadd (n := 4) rfl (hF.t rfl) rfl (by omega)) fun a hF => ?_
   refine wg hF rfl rfl rfl (gv_move rfl (hF.t rfl)) fun a hF => ?_
   refine wg hF rfl rfl rfl (gv_nsub (n := 8) rfl (hF.t rfl) (hF.t rfl) (by omega) (by omega)) fun a hF => ?_
   refine wg hF rfl rfl rfl (gv_assign rfl (hF.t rfl)) fun a hF => ?_
   refine wN ?_
   refine tN (hKq19 _ _ ?_)
   refine wK fun Kq20 hKq20 => ?_
   refine wR ?_
   refine wg hF rfl rfl rfl (gv_assign rfl (ev_const _ _)) fun a hF => ?_
   refine wN ?_
   refine tN (hKq20 _ _ ?_)
   refine wK fun Kq21 hKq21 => ?_
   refine wK fun Kq22 hKq22 => ?_
   refine wR ?_
   refine wg hF rfl rfl rfl (gv_move rfl (hF.t rfl)) fun a hF => ?_
   refine wg hF rfl rfl rfl (gv_nilCheck rfl (hF.t rfl)) fun a hF => ?_
   refine wg hF rfl rfl rfl (gv_field (r := 0) rfl u53 rfl rfl z50 (by decide) (hF.t rfl)) fun a hF => ?_
   refine wg hF rfl rfl rfl (gv_field (r := 0) rfl u50 rfl rfl z22 (by decide) (hF.t rfl)) fun a hF => ?_
   refine wg hF rfl rfl rfl (gv_load rfl u22 rfl (hF.t rfl) (cell_ix (j := 0) (hS.cell (k := 0) rfl (rfl)) (by omega))) fun a hF => ?_
   refine wg hF rfl rfl rfl (gv_neqNilS rfl u22 (hF.t rfl) (ev_const _ _)) fun a hF => ?_
   refine wN ?_
   refine tN (hKq22 _ _ ?_)
   refine wp_cond_false (hF.t rfl) ?_
   refine wp_skip ?_
   refine tN (hKq21 _ _ ?_)
   refine wK fun Kq23 hKq23 => ?_
   refine wK fun Kq24 hKq24 => ?_
   refine wR ?_
   refine wg hF rfl rfl rfl (gv_move rfl (hF.t rfl)) fun a hF => ?_
   refine wg hF rfl rfl rfl (gv_nilCheck rfl (hF.t rfl)) fun a hF => ?_
   refine wg hF rfl rfl rfl (gv_field (r := 6) rfl u53 rfl rfl z22 (by decide) (hF.t rfl)) fun a hF => ?_
   refine wg hF rfl rfl rfl (gv_load rfl u22 rfl (hF.t rfl) (cell_ix (j := 6) (hS.cell (k := 0) rfl (rfl)) (by omega))) fun a hF => ?_
   refine wg hF rfl rfl rfl (gv_len rfl u22 (hF.t rfl)) fun a hF => ?_
   refine wg hF rfl rfl rfl (gv_move rfl (hF.t rfl)) fun a hF => ?_
   refine wg hF rfl rfl rfl (gv_move rfl (hF.t rfl)) fun a hF => ?_
   refine wg hF rfl rfl rfl (gv_nadd (n := 0) rfl (hF.t rfl) (hF.t rfl) (by omega)) fun a hF => ?_
   refine wg hF rfl rfl rfl (gv_lss rfl (hF.t rfl) (hF.t rfl)) fun a hF => ?_
   refine wN ?_
   refine tN (hKq24 _ _ ?_)
   refine cond_dec (hF.t rfl) (fun h109 => ?_) (fun h109 => ?_)
   ·
    refine wK fun Kq25 hKq25 => ?_
    refine wR ?_
    refine wg hF rfl rfl rfl (gv_assign rfl (ev_const _ _)) fun a hF => ?_
    refine wg hF rfl rfl rfl (gv_assign rfl (ev_const _ _)) fun a hF => ?_
    refine wN ?_
    refine tN (hKq25 _ _ ?_)
    refine wp_ret ?_
    refine then_ret ?_
    refine ret2 (fn := Tryd.f58) (t := 2) (u := 3) hF rfl rfl rfl ?_
    rw [hst, step2, if_neg (by show ¬ (((u32A hl 4).toNat < 5 ∨ 2348 < (u32A hl 4).toNat) ∨ ¬ ((u32A hl 4).toNat + 4) % 8 = 0); omega), if_pos (by show B1.length < (u32A hl 4).toNat + 4 - 8 + 0; omega)]
    exact NextP.mk' hX hX0 hYn (fun e he => by cases he) (stB0 hS) (by rw [List.append_nil]; exact hB10) (by rw [List.append_nil]; exact ⟨hhl, hh0⟩) SRd.nil
   ·
    refine wp_skip ?_
    refine tN (hKq23 _ _ ?_)
    refine wK fun Kq26 hKq26 => ?_
    refine wR ?_
    refine wg hF rfl rfl rfl (gv_move rfl (hF.t rfl)) fun a hF => ?_
    refine wg hF rfl rfl rfl (gv_nilCheck rfl (hF.t rfl)) fun a hF => ?_
    refine wg hF rfl rfl rfl (gv_field (r := 7) rfl u53 rfl rfl z22 (by decide) (hF.t rfl)) fun a hF => ?_
    refine wg hF rfl rfl rfl (gv_load rfl u22 rfl (hF.t rfl) (cell_ix (j := 7) (hS.cell (k := 0) rfl (rfl)) (by omega))) fun a hF => ?_
    replace hS := hS.addNil (blk 5 (([] : List UInt8).map vB ++ []))
    refine wpList_stp (stp_appB (ob := none) (l := []) (pad := []) (k := 0) hF (wanted_none rfl) rfl rfl rfl u22 Tryd.ty5 rfl (ev_const _ _) (hF.t rfl) hS rfl (fun _ => ⟨rfl, rfl⟩) (by simp) (hh w _ hS (nw_cons rfl (nw_cons rfl hXn)) (fun e he => List.mem_cons_of_mem _ (List.mem_cons_of_mem _ (he)))) (by simp only [List.length_nil]; omega) fun p pp a w hF po pc hS => ?_)
    simp only [List.nil_append] at hF po pc hS
    refine wg hF rfl rfl rfl (gv_assign rfl (hF.t rfl)) fun a hF => ?_
    refine wN ?_
    refine tN (hKq26 _ _ ?_)
    refine wK fun Kq27 hKq27 => ?_
    refine wK fun Kq28 hKq28 => ?_
    refine wR ?_
    refine wg hF rfl rfl rfl (gv_move rfl (hF.t rfl)) fun a hF => ?_
    refine wg hF rfl rfl rfl (gv_nilCheck rfl (hF.t rfl)) fun a hF => ?_
    refine wg hF rfl rfl rfl (gv_field (r := 0) rfl u53 rfl rfl z50 (by decide) (hF.t rfl)) fun a hF => ?_
    refine wg hF rfl rfl rfl (gv_field (r := 0) rfl u50 rfl rfl z22 (by decide) (hF.t rfl)) fun a hF => ?_
    refine wg hF rfl rfl rfl (gv_load rfl u22 rfl (hF.t rfl) (cell_ix (j := 0) (hS.cell (k := 1) rfl (rfl)) (by omega))) fun a hF => ?_
    refine wg hF rfl rfl rfl (gv_neqNilS rfl u22 (hF.t rfl) (ev_const _ _)) fun a hF => ?_
    refine wN ?_
    refine tN (hKq28 _ _ ?_)
    refine wp_cond_false (hF.t rfl) ?_
    refine wR ?_
    refine wg hF rfl rfl rfl (gv_move rfl (hF.t rfl)) fun a hF => ?_
    refine wg hF rfl rfl rfl (gv_move rfl (hF.t rfl)) fun a hF => ?_
    refine wg hF rfl rfl rfl (gv_nilCheck rfl (hF.t rfl)) fun a hF => ?_
    refine wg hF rfl rfl rfl (gv_field (r := 6) rfl u53 rfl rfl z22 (by decide) (hF.t rfl)) fun a hF => ?_
    refine wg hF rfl rfl rfl (gv_load rfl u22 rfl (hF.t rfl) (cell_ix (j := 6) (hS.cell (k := 1) rfl (rfl)) (by omega))) fun a hF => ?_
    refine wg hF rfl rfl rfl (gv_move rfl (hF.t rfl)) fun a hF => ?_
    refine wg hF rfl rfl rfl (gv_sliceHi rfl u22 z5 (hF.t rfl) (hF.t rfl) (by omega)) fun a hF => ?_
    refine wpList_stp (stp_appB (k := 0) (ml := B1.take (N + 4 - 8)) hF (wanted_none rfl) rfl rfl rfl u22 Tryd.ty5 rfl (hF.t rfl) (hF.t rfl) hS rfl po pc (by rw [List.map_take]; exact (hB1.cutHi (by omega)) w _ hS (nw_cons rfl (nw_cons rfl hXn)) (fun e he => List.mem_cons_of_mem _ (List.mem_cons_of_mem _ (he)))) (by rw [List.length_take]; omega) fun p pp a w hF po pc hS => ?_)
    refine wg hF rfl rfl rfl (gv_assign rfl (hF.t rfl)) fun a hF => ?_
    obtain ⟨P, hP⟩ : ∃ P, P = (hl ++ B1.take (N + 4 - 8)) := ⟨_, rfl⟩
    rw [← hP] at hF hS po pc
    have hPl : P.length = N + 4 := by rw [hP, List.length_append, List.length_take]; omega
    obtain ⟨p, rfl⟩ := own_some po (by omega)
    have hp4 := (P.getD 4 0).toNat_lt
    refine wN ?_
    refine tN (hKq27 _ _ ?_)
    refine wK fun Kq29 hKq29 => ?_
    refine wR ?_
    refine wg hF rfl rfl rfl (gv_move rfl (hF.t rfl)) fun a hF => ?_
    refine wg hF rfl rfl rfl (gv_move rfl (hF.t rfl)) fun a hF => ?_
    refine wg hF rfl rfl rfl (gv_nilCheck rfl (hF.t rfl)) fun a hF => ?_
    refine wg hF rfl rfl rfl (gv_field (r := 6) rfl u53 rfl rfl z22 (by decide) (hF.t rfl)) fun a hF => ?_
    refine wg hF rfl rfl rfl (gv_load rfl u22 rfl (hF.t rfl) (cell_ix (j := 6) (hS.cell (k := 1) rfl (rfl)) (by omega))) fun a hF => ?_
    refine wg hF rfl rfl rfl (gv_move rfl (hF.t rfl)) fun a hF => ?_
    refine wg hF rfl rfl rfl (gv_move rfl (hF.t rfl)) fun a hF => ?_
    refine wg hF rfl rfl rfl (gv_nadd (n := 0) rfl (hF.t rfl) (hF.t rfl) (by omega)) fun a hF => ?_
    refine wg hF rfl rfl rfl (gv_sliceLo rfl u22 z5 (hF.t rfl) (hF.t rfl) (by omega)) fun a hF => ?_
    refine wg hF rfl rfl rfl (gv_nilCheck rfl (hF.t rfl)) fun a hF => ?_
    refine wg hF rfl rfl rfl (gv_field (r := 6) rfl u53 rfl rfl z22 (by decide) (hF.t rfl)) fun a hF => ?_
    refine wpList_stp (stp_storeAt (6) hF (wanted_none rfl) rfl rfl z22 (hF.t rfl) (by omega) (hF.t rfl) rfl hS (k := 1) rfl (by simp) fun w hS => ?_)
    refine wN ?_
    refine tN (hKq29 _ _ ?_)
    refine wK fun Kq30 hKq30 => ?_
    refine wR ?_
    refine wg hF rfl rfl rfl (gv_move rfl (hF.t rfl)) fun a hF => ?_
    refine wg hF rfl rfl rfl (gv_nilCheck rfl (hF.t rfl)) fun a hF => ?_
    refine wg hF rfl rfl rfl (gv_field (r := 7) rfl u53 rfl rfl z22 (by decide) (hF.t rfl)) fun a hF => ?_
    refine wpList_stp (stp_storeAt (7) hF (wanted_none rfl) rfl rfl z22 (hF.t rfl) (by omega) (ev_const _ _) rfl hS (k := 1) rfl (by simp) fun w hS => ?_)
    refine wN ?_
    refine tN (hKq30 _ _ ?_)
    refine wK fun Kq31 hKq31 => ?_
    refine wR ?_
    refine wg hF rfl rfl rfl (gv_move rfl (hF.t rfl)) fun a hF => ?_
    refine wg hF rfl rfl rfl (gv_indexSl (q := 4) rfl u22 z5 (hF.t rfl) rfl (by omega)) fun a hF => ?_
    refine wg hF rfl rfl rfl (gv_load rfl u5 rfl (hF.t rfl) (cell_ix (j := 4) (hS.cell (k := 0) rfl (at_map (by omega) 0)) (by omega))) fun a hF => ?_
    refine wg hF rfl rfl rfl (gv_conv_b_i rfl u5 u3 (hF.t rfl)) fun a hF => ?_
    refine wg hF rfl rfl rfl (gv_assign rfl (hF.t rfl)) fun a hF => ?_
    refine wN ?_
    refine tN (hKq31 _ _ ?_)
    refine wK fun Kq32 hKq32 => ?_
    refine wK fun Kq33 hKq33 => ?_
    refine wR ?_
    refine wg hF rfl rfl rfl (gv_move rfl (hF.t rfl)) fun a hF => ?_
    refine wg hF rfl rfl rfl (gv_lss rfl (hF.t rfl) (ev_const _ _)) fun a hF => ?_
    refine wg hF rfl rfl rfl (gv_move rfl (hF.t rfl)) fun a hF => ?_
    refine wpList_stp (stp_gvG' hF rfl rfl rfl rfl rfl (fun hg => gv_move rfl (hF.t rfl)) fun a hF => ?_)
    refine wpList_stp (stp_gvG' hF rfl rfl rfl rfl rfl (fun hg => gv_len rfl u22 ((hF.t rfl).trans (if_neg hg))) fun a hF => ?_)
    refine wpList_stp (stp_gvG' hF rfl rfl rfl rfl rfl (fun hg => gv_nsub (n := 5) rfl ((hF.t rfl).trans (if_neg hg)) rfl (by omega) (by omega)) fun a hF => ?_)
    refine wpList_stp (stp_gvG' hF rfl rfl rfl rfl rfl (fun hg => gv_move rfl (hF.t rfl)) fun a hF => ?_)
    refine wpList_stp (stp_gvG' hF rfl rfl rfl rfl rfl (fun hg => gv_sub rfl ((hF.t rfl).trans (if_neg hg)) ((hF.t rfl).trans (if_neg hg)) (by omega) (by omega)) fun a hF => ?_)
    refine wpList_stp (stp_gvG' hF rfl rfl rfl rfl rfl (fun hg => gv_lss rfl ((hF.t rfl).trans (if_neg hg)) (ev_const _ _)) fun a hF => ?_)
    refine wg hF rfl rfl rfl (gv_pickOr rfl (hF.t rfl) (ev_const _ _) (hF.t rfl)) fun a hF => ?_
    refine wN ?_
    refine tN (hKq33 _ _ ?_)
    refine cond_dec (hF.t rfl) (fun h187 => ?_) (fun h187 => ?_)
    ·
     refine wK fun Kq34 hKq34 => ?_
     refine wR ?_
     refine wg hF rfl rfl rfl (gv_move rfl (hF.t rfl)) fun a hF => ?_
     refine wg hF rfl rfl rfl (gv_nilCheck rfl (hF.t rfl)) fun a hF => ?_
     refine wg hF rfl rfl rfl (gv_field (r := 8) rfl u53 rfl rfl z4 (by decide) (hF.t rfl)) fun a hF => ?_
     refine wpList_stp (stp_storeAt (8) hF (wanted_none rfl) rfl rfl z4 (hF.t rfl) (by omega) (ev_const _ _) rfl hS (k := 1) rfl (by simp) fun w hS => ?_)
     refine wN ?_
     refine tN (hKq34 _ _ ?_)
     refine wK fun Kq35 hKq35 => ?_
     refine wR ?_
     refine wg hF rfl rfl rfl (gv_assign rfl (ev_const _ _)) fun a hF => ?_
     refine wg hF rfl rfl rfl (gv_assign rfl (ev_const _ _)) fun a hF => ?_
     refine wN ?_
     refine tN (hKq35 _ _ ?_)
     refine wp_ret ?_
     refine then_ret ?_
     refine ret2 (fn := Tryd.f58) (t := 2) (u := 3) hF rfl rfl rfl ?_
     rw [hst, step2, if_neg (by show ¬ (((u32A hl 4).toNat < 5 ∨ 2348 < (u32A hl 4).toNat) ∨ ¬ ((u32A hl 4).toNat + 4) % 8 = 0); omega), if_neg (by show ¬ B1.length < (u32A hl 4).toNat + 4 - 8 + 0; omega)]
     show NextP _ _ _ _ _ _ _ _ (step3 ⟨none, advQ (none) at1 ((u32A hl 4).toNat + 4 - 8), sq, n, B1, some hl, false⟩ (hl ++ turnQ (none) at1 (B1.take ((u32A hl 4).toNat + 4 - 8))) ((u32A hl 4).toNat + 4 - 8)) _ _
     rw [← hN]
     show NextP _ _ _ _ _ _ _ _ (step3 ⟨none, at1, sq, n, B1, some hl, false⟩ (hl ++ B1.take (N + 4 - 8)) (N + 4 - 8)) _ _
     rw [← hP, step3]
     rw [if_neg (by show ¬ (([] : List UInt8) ≠ (B1.take ((N + 4 - 8) + 0)).drop (N + 4 - 8)); rw [Nat.add_zero, List.drop_of_length_le (by rw [List.length_take]; omega)]; exact fun h => h rfl), step4, if_pos (by omega)]
     exact NextP.mk' hX hX0 hYn (nw_cons rfl nw_nil) (stB1 hS) (by show SRd _ _ _ ((B1.drop ((N + 4 - 8) + 0)).map vB); rw [List.map_drop]; exact (hB10.cutLo (lo := (N + 4 - 8) + 0) (by omega)).mono (fun e he => List.mem_append_left _ he)) rfl SRd.nil
    ·
     refine wp_skip ?_
     refine tN (hKq32 _ _ ?_)
     refine wK fun Kq36 hKq36 => ?_
     refine wR ?_
     refine wg hF rfl rfl rfl (gv_move rfl (hF.t rfl)) fun a hF => ?_
     refine wg hF rfl rfl rfl (gv_nilCheck rfl (hF.t rfl)) fun a hF => ?_
     refine wg hF rfl rfl rfl (gv_field (r := 0) rfl u53 rfl rfl z50 (by decide) (hF.t rfl)) fun a hF => ?_
     refine wg hF rfl rfl rfl (gv_field (r := 4) rfl u50 rfl rfl z3 (by decide) (hF.t rfl)) fun a hF => ?_
     refine wg hF rfl rfl rfl (gv_load rfl u3 rfl (hF.t rfl) (cell_ix (j := 4) (hS.cell (k := 1) rfl (rfl)) (by omega))) fun a hF => ?_
     refine wg hF rfl rfl rfl (gv_nadd (n := 1) rfl (hF.t rfl) rfl (by omega)) fun a hF => ?_
     refine wg hF rfl rfl rfl (gv_nilCheck rfl (hF.t rfl)) fun a hF => ?_
     refine wg hF rfl rfl rfl (gv_field (r := 0) rfl u53 rfl rfl z50 (by decide) (hF.t rfl)) fun a hF => ?_
     refine wg hF rfl rfl rfl (gv_field (r := 4) rfl u50 rfl rfl z3 (by decide) (hF.t rfl)) fun a hF => ?_
     refine wpList_stp (stp_storeAt (4) hF (wanted_none rfl) rfl rfl z3 (hF.t rfl) (by omega) (hF.t rfl) rfl hS (k := 1) rfl (by simp) fun w hS => ?_)
     refine wN ?_
     refine tN (hKq36 _ _ ?_)
     refine wK fun Kq37 hKq37 => ?_
     refine wR ?_
     refine wg hF rfl rfl rfl (gv_move rfl (hF.t rfl)) fun a hF => ?_
     refine wg hF rfl rfl rfl (gv_nilCheck rfl (hF.t rfl)) fun a hF => ?_
     refine wg hF rfl rfl rfl (gv_field (r := 0) rfl u53 rfl rfl z50 (by decide) (hF.t rfl)) fun a hF => ?_
     refine wg hF rfl rfl rfl (gv_field (r := 5) rfl u50 rfl rfl z3 (by decide) (hF.t rfl)) fun a hF => ?_
     refine wg hF rfl rfl rfl (gv_load rfl u3 rfl (hF.t rfl) (cell_ix (j := 5) (hS.cell (k := 1) rfl (rfl)) (by omega))) fun a hF => ?_
     refine wg hF rfl rfl rfl (gv_nadd (n := 1) rfl (hF.t rfl) rfl (by omega)) fun a hF => ?_
     refine wg hF rfl rfl rfl (gv_nilCheck rfl (hF.t rfl)) fun a hF => ?_
     refine wg hF rfl rfl rfl (gv_field (r := 0) rfl u53 rfl rfl z50 (by decide) (hF.t rfl)) fun a hF => ?_
     refine wg hF rfl rfl rfl (gv_field (r := 5) rfl u50 rfl rfl z3 (by decide) (hF.t rfl)) fun a hF => ?_
     refine wpList_stp (stp_storeAt (5) hF (wanted_none rfl) rfl rfl z3 (hF.t rfl) (by omega) (hF.t rfl) rfl hS (k := 1) rfl (by simp) fun w hS => ?_)
     refine wN ?_
     refine tN (hKq37 _ _ ?_)
     refine wK fun Kq38 hKq38 => ?_
     refine wR ?_
     refine wg hF rfl rfl rfl (gv_move rfl (hF.t rfl)) fun a hF => ?_
     refine wg hF rfl rfl rfl (gv_move rfl (hF.t rfl)) fun a hF => ?_
     refine wg hF rfl rfl rfl (gv_len rfl u22 (hF.t rfl)) fun a hF => ?_
     refine wg hF rfl rfl rfl (gv_move rfl (hF.t rfl)) fun a hF => ?_
     refine wg hF rfl rfl rfl (gv_nsub rfl (hF.t rfl) (hF.t rfl) (by omega) (by omega)) fun a hF => ?_
     refine wg hF rfl rfl rfl (gv_slice2 (l := 5) rfl u22 z5 (hF.t rfl) rfl (hF.t rfl) (by omega) (by omega)) fun a hF => ?_
     refine wg hF rfl rfl rfl (gv_assign rfl (hF.t rfl)) fun a hF => ?_
     refine wg hF rfl rfl rfl (gv_assign rfl (ev_const _ _)) fun a hF => ?_
     refine wN ?_
     refine tN (hKq38 _ _ ?_)
     refine wp_ret ?_
     refine ret2 (fn := Tryd.f58) (t := 2) (u := 3) hF rfl rfl rfl ?_
     have hv := (own_rd (w0 := w00) (T := [⟨true, some p, blk 5 (P.map vB ++ pp)⟩]) (ob := some p) (l := P) List.mem_cons_self (fun h => by cases h) rfl pc).cut3 (l := 5) (h := P.length - (P.getD 4 0).toNat) (mx := P.length + pp.length) (by omega) (by omega) (by omega) (Nat.le_refl _)
     rw [← List.map_take, ← List.map_drop] at hv
     rw [hst, step2, if_neg (by show ¬ (((u32A hl 4).toNat < 5 ∨ 2348 < (u32A hl 4).toNat) ∨ ¬ ((u32A hl 4).toNat + 4) % 8 = 0); omega), if_neg (by show ¬ B1.length < (u32A hl 4).toNat + 4 - 8 + 0; omega)]
     show NextP _ _ _ _ _ _ _ _ (step3 ⟨none, advQ (none) at1 ((u32A hl 4).toNat + 4 - 8), sq, n, B1, some hl, false⟩ (hl ++ turnQ (none) at1 (B1.take ((u32A hl 4).toNat + 4 - 8))) ((u32A hl 4).toNat + 4 - 8)) _ _
     rw [← hN]
     show NextP _ _ _ _ _ _ _ _ (step3 ⟨none, at1, sq, n, B1, some hl, false⟩ (hl ++ B1.take (N + 4 - 8)) (N + 4 - 8)) _ _
     rw [← hP, step3]
     rw [if_neg (by show ¬ (([] : List UInt8) ≠ (B1.take ((N + 4 - 8) + 0)).drop (N + 4 - 8)); rw [Nat.add_zero, List.drop_of_length_le (by rw [List.length_take]; omega)]; exact fun h => h rfl), step4, if_neg (by omega)]
     exact NextP.mk' hX hX0 hYn (nw_cons rfl nw_nil) (stB1 hS) (by show SRd _ _ _ ((B1.drop ((N + 4 - 8) + 0)).map vB); rw [List.map_drop]; exact (hB10.cutLo (lo := (N + 4 - 8) + 0) (by omega)).mono (fun e he => List.mem_append_left _ he)) rfl (hv.mono (fun e he => List.mem_append_right _ he))
end Go.Proofs.YtfhalnobaeogkaaDoor
set_option linter.unusedVariables false
set_option linter.unusedSimpArgs false
namespace Go.Proofs.YtfhalnobaeogkaaDoor
open Go Go.RowKit Go.Fw
set_option maxHeartbeats 1000000 in
theorem rnext_key {w00 w : World} {T0 T : List Ent} {r at_ sq n kc kb ko : Nat} {iv mv bv hv : Value} {B : List UInt8} {ho : Option (List UInt8)} (h0 : ∀ e ∈ T0, e ∈ T) (hT : ∀ e ∈ T, e.nw = true) (hS : St w00 w (rdE r (.slice (some ⟨kb, ko, none⟩) 16 kc) iv mv at_ sq n (bv) (hv) false :: T)) (hB : SRd w00 T0 bv (B.map vB)) (hh : HdV w00 T0 hv 16 ho) (hBl : B.length ≤ 100000) (hat : at_ ≤ 1000000000) (hsq : sq < 4294967295) (hn : n ≤ 4611686018427387904) {kl il ml : List UInt8} (hk : SRd w00 T0 (.slice (some ⟨kb, ko, none⟩) 16 kc) (kl.map vB)) (hi : SRd w00 T0 iv (il.map vB)) (hm : SRd w00 T0 mv (ml.map vB)) (hkl : kl.length = 16) (hil : il.length = 16) (hml : ml.length = 32) :
  Calls Tryd.prog 58 #[.pointer (some ⟨r, 0, none⟩)] w (NextP w00 T0 T r (.slice (some ⟨kb, ko, none⟩) 16 kc) iv mv 16 (nextQ ⟨some (kl, il, ml), at_, sq, n, B, ho, false⟩)) := by
 have hB0 := hB
 replace hB := hB0.mono h0
 replace hk := hk.mono h0
 replace hi := hi.mono h0
 replace hm := hm.mono h0
 obtain ⟨Ab, cb, rfl, hcb, _, _⟩ := (hB w _ hS (nw_cons rfl hT) (fun e he => List.mem_cons_of_mem _ (he))).isB
 refine calls_start 215 Tryd.func58 rfl Tryd.ntmps58 rfl fun a hF => ?_
 refine wK fun Kq1 hKq1 => ?_
 refine wR ?_
 refine wg hF rfl rfl rfl (gv_assign rfl (ev_const _ _)) fun a hF => ?_
 refine wg hF rfl rfl rfl (gv_assign rfl (ev_const _ _)) fun a hF => ?_
 refine wN ?_
 refine tN (hKq1 _ _ ?_)
 refine wK fun Kq2 hKq2 => ?_
 refine wK fun Kq3 hKq3 => ?_
 refine wR ?_
 refine wg hF rfl rfl rfl (gv_move rfl (hF.t rfl)) fun a hF => ?_
 refine wg hF rfl rfl rfl (gv_nilCheck rfl (hF.t rfl)) fun a hF => ?_
 refine wg hF rfl rfl rfl (gv_field (r := 8) rfl u53 rfl rfl z4 (by decide) (hF.t rfl)) fun a hF => ?_
 refine wg hF rfl rfl rfl (gv_load rfl u4 rfl (hF.t rfl) (cell_ix (j := 8) (hS.cell (k := 0) rfl (rfl)) (by omega))) fun a hF => ?_
 refine wN ?_
 refine tN (hKq3 _ _ ?_)
 refine wp_cond_false (hF.t rfl) ?_
 refine wp_skip ?_
 refine tN (hKq2 _ _ ?_)
 refine wK fun Kq4 hKq4 => ?_
 refine wR ?_
 refine wg hF rfl rfl rfl (gv_move rfl (hF.t rfl)) fun a hF => ?_
 refine wg hF rfl rfl rfl (gv_nilCheck rfl (hF.t rfl)) fun a hF => ?_
 refine wg hF rfl rfl rfl (gv_field (r := 0) rfl u53 rfl rfl z50 (by decide) (hF.t rfl)) fun a hF => ?_
 refine wpList_stp (stp_call hF (wanted_none rfl) rfl rfl Tryd.ok53 rfl (Evs.cons (hF.t rfl) Evs.nil) (hunit_key (hS.cell (k := 0) (i := 0) rfl rfl)) fun e w h => ?_)
 obtain ⟨rfl, hx⟩ := h
 refine ⟨_, rfl, fun a hF => ?_⟩
 replace hS := hS.ext hx
 clear hx
 refine wg hF rfl rfl rfl (gv_assign rfl (hF.t rfl)) fun a hF => ?_
 refine wN ?_
 refine tN (hKq4 _ _ ?_)
 refine wp_cut (fun a w => ∃ (hl : List UInt8) (hv bv : Value) (B1 : List UInt8) (at1 : Nat) (Y : List Ent), hl.length = 16 ∧ (∀ e ∈ Y, e.nw = true) ∧ B1.length ≤ 100000 ∧ at1 ≤ 1000000016 ∧ SRd w00 (T0 ++ Y) hv (hl.map vB) ∧ SRd w00 (T0 ++ Y) bv (B1.map vB) ∧ nextQ ⟨some (kl, il, ml), at_, sq, n, B, ho, false⟩ = step2 ⟨some (kl, il, ml), at1, sq, n, B1, none, false⟩ hl ∧ Fr 215 a [(0, .pointer (some ⟨r, 0, none⟩)), (4, vI 16)] ∧ St w00 w (rdE r (.slice (some ⟨kb, ko, none⟩) 16 kc) iv mv at1 sq n (bv) (hv) false :: (T ++ Y))) ?_ ?_
 ·
  rcases ho with _ | hl
  ·
   obtain rfl : hv = .slice none 0 0 := hh
   refine wK fun Kq5 hKq5 => ?_
   refine wR ?_
   refine wg hF rfl rfl rfl (gv_move rfl (hF.t rfl)) fun a hF => ?_
   refine wg hF rfl rfl rfl (gv_nilCheck rfl (hF.t rfl)) fun a hF => ?_
   refine wg hF rfl rfl rfl (gv_field (r := 7) rfl u53 rfl rfl z22 (by decide) (hF.t rfl)) fun a hF => ?_
   refine wg hF rfl rfl rfl (gv_load rfl u22 rfl (hF.t rfl) (cell_ix (j := 7) (hS.cell (k := 0) rfl (rfl)) (by omega))) fun a hF => ?_
   refine wg hF rfl rfl rfl (gv_eqlNilS rfl u22 (hF.t rfl) (ev_const _ _)) fun a hF => ?_
   refine wN ?_
   refine tN (hKq5 _ _ ?_)
   refine wp_cond_true (hF.t rfl) ?_
   refine wK fun Kq6 hKq6 => ?_
   refine wK fun Kq7 hKq7 => ?_
   refine wR ?_
   refine wg hF rfl rfl rfl (gv_move rfl (hF.t rfl)) fun a hF => ?_
   refine wg hF rfl rfl rfl (gv_nilCheck rfl (hF.t rfl)) fun a hF => ?_
   refine wg hF rfl rfl rfl (gv_field (r := 6) rfl u53 rfl rfl z22 (by decide) (hF.t rfl)) fun a hF => ?_
   refine wg hF rfl rfl rfl (gv_load rfl u22 rfl (hF.t rfl) (cell_ix (j := 6) (hS.cell (k := 0) rfl (rfl)) (by omega))) fun a hF => ?_
   refine wg hF rfl rfl rfl (gv_len rfl u22 (hF.t rfl)) fun a hF => ?_
   refine wg hF rfl rfl rfl (gv_move rfl (hF.t rfl)) fun a hF => ?_
   refine wg hF rfl rfl rfl (gv_lss rfl (hF.t rfl) (hF.t rfl)) fun a hF => ?_
   refine wN ?_
   refine tN (hKq7 _ _ ?_)
   refine cond_dec (hF.t rfl) (fun h30 => ?_) (fun h30 => ?_)
   ·
    refine wK fun Kq8 hKq8 => ?_
    refine wR ?_
    refine wg hF rfl rfl rfl (gv_assign rfl (ev_const _ _)) fun a hF => ?_
    refine wg hF rfl rfl rfl (gv_assign rfl (ev_const _ _)) fun a hF => ?_
    refine wN ?_
    refine tN (hKq8 _ _ ?_)
    refine wp_ret ?_
    refine then_ret ?_
    refine then_ret ?_
    refine ret2 (fn := Tryd.f58) (t := 2) (u := 3) hF rfl rfl rfl ?_
    rw [nextQ, if_neg Bool.false_ne_true]
    show NextP _ _ _ _ _ _ _ _ (if B.length < 16 then _ else _) _ _
    rw [if_pos (by omega)]
    exact NextP.mk' (List.append_nil T).symm (List.append_nil T0).symm (fun e he => by cases he) (fun e he => by cases he) (stB0 hS) (by rw [List.append_nil]; exact hB0) rfl SRd.nil
   ·
    refine wp_skip ?_
    refine tN (hKq6 _ _ ?_)
    refine wK fun Kq9 hKq9 => ?_
    refine wR ?_
    refine wg hF rfl rfl rfl (gv_move rfl (hF.t rfl)) fun a hF => ?_
    refine wg hF rfl rfl rfl (gv_move rfl (hF.t rfl)) fun a hF => ?_
    refine wg hF rfl rfl rfl (gv_nilCheck rfl (hF.t rfl)) fun a hF => ?_
    refine wg hF rfl rfl rfl (gv_field (r := 6) rfl u53 rfl rfl z22 (by decide) (hF.t rfl)) fun a hF => ?_
    refine wg hF rfl rfl rfl (gv_load rfl u22 rfl (hF.t rfl) (cell_ix (j := 6) (hS.cell (k := 0) rfl (rfl)) (by omega))) fun a hF => ?_
    refine wg hF rfl rfl rfl (gv_move rfl (hF.t rfl)) fun a hF => ?_
    refine wg hF rfl rfl rfl (gv_sliceHi (hi := 16) rfl u22 z5 (hF.t rfl) (hF.t rfl) (by omega)) fun a hF => ?_
    replace hS := hS.addNil (blk 5 (([] : List UInt8).map vB ++ []))
    refine wpList_stp (stp_appB (ob := none) (l := []) (pad := []) (k := 0) hF (wanted_none rfl) rfl rfl rfl u22 Tryd.ty5 rfl (ev_const _ _) (hF.t rfl) hS rfl (fun _ => ⟨rfl, rfl⟩) (by simp) (by rw [List.map_take]; exact (hB.cutHi (hi := 16) (by omega)) w _ hS (nw_cons rfl (nw_cons rfl hT)) (fun e he => List.mem_cons_of_mem _ (List.mem_cons_of_mem _ (he)))) (by rw [List.length_take]; simp only [List.length_nil]; omega) fun hd hdp a w hF hdo hdc hS => ?_)
    simp only [List.nil_append] at hF hdo hdc hS
    have hdl : (B.take 16).length = 16 := by rw [List.length_take]; omega
    obtain ⟨hd, rfl⟩ := own_some hdo (by omega)
    rw [hdl] at hF hdc
    replace hS := hS.move (k := 1) rfl
    simp only [List.set_cons_zero, List.set_cons_succ, List.eraseIdx_cons_succ, List.eraseIdx_cons_zero] at hS
    refine wg hF rfl rfl rfl (gv_nilCheck rfl (hF.t rfl)) fun a hF => ?_
    refine wg hF rfl rfl rfl (gv_field (r := 7) rfl u53 rfl rfl z22 (by decide) (hF.t rfl)) fun a hF => ?_
    refine wpList_stp (stp_storeAt (7) hF (wanted_none rfl) rfl rfl z22 (hF.t rfl) (by omega) (hF.t rfl) rfl hS (k := 0) rfl (by simp) fun w hS => ?_)
    refine wN ?_
    refine tN (hKq9 _ _ ?_)
    refine wK fun Kq10 hKq10 => ?_
    refine wK fun Kq11 hKq11 => ?_
    refine wR ?_
    refine wg hF rfl rfl rfl (gv_move rfl (hF.t rfl)) fun a hF => ?_
    refine wg hF rfl rfl rfl (gv_nilCheck rfl (hF.t rfl)) fun a hF => ?_
    refine wg hF rfl rfl rfl (gv_field (r := 0) rfl u53 rfl rfl z50 (by decide) (hF.t rfl)) fun a hF => ?_
    refine wg hF rfl rfl rfl (gv_field (r := 0) rfl u50 rfl rfl z22 (by decide) (hF.t rfl)) fun a hF => ?_
    refine wg hF rfl rfl rfl (gv_load rfl u22 rfl (hF.t rfl) (cell_ix (j := 0) (hS.cell (k := 0) rfl (rfl)) (by omega))) fun a hF => ?_
    refine wg hF rfl rfl rfl (gv_neqNilS rfl u22 (hF.t rfl) (ev_const _ _)) fun a hF => ?_
    refine wN ?_
    refine tN (hKq11 _ _ ?_)
    refine wp_cond_true (hF.t rfl) ?_
    refine Fw.wp_region_draw (by kernel_rfl) fun w hx => ?_
    replace hS := hS.ext hx
    clear hx
    refine run_swalkI ⟨fun w => ∃ q H, St w00 w H ∧ (rdE r (.slice (some ⟨kb, ko, none⟩) 16 kc) iv mv q sq n (.slice Ab B.length cb) (.slice (some ⟨hd, 0, none⟩) 16 (16 + hdp.length)) false) ∈ H, w, ⟨_, _, hS, (List.mem_of_getElem? (i := 0) rfl)⟩⟩ _ 0 9 [8] [] _ (⟨_, _, hS, (List.mem_of_getElem? (i := 0) rfl)⟩) (by kernel_rfl) (by kernel_rfl) rfl hF.size ?_
    refine sg hF rfl rfl rfl rfl (fun w hx => gv_move rfl (hF.t rfl)) fun a hF => ?_
    refine sg hF rfl rfl rfl rfl (fun w hx => gv_move rfl (hF.t rfl)) fun a hF => ?_
    refine sg hF rfl rfl rfl rfl (fun w hx => gv_nilCheck rfl (hF.t rfl)) fun a hF => ?_
    refine sg hF rfl rfl rfl rfl (fun w hx => gv_field (r := 0) rfl u53 rfl rfl z50 (by decide) (hF.t rfl)) fun a hF => ?_
    refine sg hF rfl rfl rfl rfl (fun w hx => gv_move rfl (hF.t rfl)) fun a hF => ?_
    refine sg hF rfl rfl rfl rfl (fun w hx => gv_nilCheck rfl (hF.t rfl)) fun a hF => ?_
    refine sg hF rfl rfl rfl rfl (fun w hx => gv_field (r := 7) rfl u53 rfl rfl z22 (by decide) (hF.t rfl)) fun a hF => ?_
    refine sg hF rfl rfl rfl rfl (fun w hx => by obtain ⟨q, H, hI, hm2⟩ := hx; exact gv_load rfl u22 rfl (hF.t rfl) (cell_ix (cellIn (i := 7) hI hm2 rfl) (by omega))) fun a hF => ?_
    refine sw_eff rfl (stp_call hF (wanted_none rfl) rfl rfl Tryd.ok57 rfl (Evs.cons (hF.t rfl) (Evs.cons (hF.t rfl) Evs.nil)) (hturn_ok (bl := B.take 16) (nw_cons rfl hT) hS (hk.mono (fun e he => List.mem_cons_of_mem _ (he))) (hi.mono (fun e he => List.mem_cons_of_mem _ (he))) hkl hil (own_rd (ob := some hd) (l := B.take 16) List.mem_cons_self hdo hdl hdc) (by omega) (by omega)) fun e w h => ?_)
    obtain ⟨q, qp, rfl, qo, qc, hS⟩ := h
    refine ⟨_, rfl, fun a hF => ?_⟩
    rw [hdl] at hF hS qc
    obtain ⟨q, rfl⟩ := own_some qo (by rw [turned_len]; omega)
    refine ⟨⟨_, _, hS, (List.mem_of_getElem? (i := 1) rfl)⟩, ?_⟩
    refine sw_nil ?_
    refine run_stp (by kernel_rfl) rfl (stp_gv hF (wanted_none rfl) rfl rfl (gv_nilCheck rfl (hF.t rfl)) fun a hF => ?_)
    refine run_stp (by kernel_rfl) rfl (stp_gv hF (wanted_none rfl) rfl rfl (gv_field (r := 7) rfl u53 rfl rfl z22 (by decide) (hF.t rfl)) fun a hF => ?_)
    refine run_stp (by kernel_rfl) rfl (stp_storeAt (7) hF (wanted_none rfl) rfl rfl z22 (hF.t rfl) (by omega) (hF.t rfl) rfl hS (k := 1) rfl (by simp) fun w hS => ?_)
    refine run_done (by decide) ?_
    refine tN (hKq10 _ _ ?_)
    refine wR ?_
    refine wg hF rfl rfl rfl (gv_move rfl (hF.t rfl)) fun a hF => ?_
    refine wg hF rfl rfl rfl (gv_move rfl (hF.t rfl)) fun a hF => ?_
    refine wg hF rfl rfl rfl (gv_nilCheck rfl (hF.t rfl)) fun a hF => ?_
    refine wg hF rfl rfl rfl (gv_field (r := 6) rfl u53 rfl rfl z22 (by decide) (hF.t rfl)) fun a hF => ?_
    refine wg hF rfl rfl rfl (gv_load rfl u22 rfl (hF.t rfl) (cell_ix (j := 6) (hS.cell (k := 1) rfl (rfl)) (by omega))) fun a hF => ?_
    refine wg hF rfl rfl rfl (gv_move rfl (hF.t rfl)) fun a hF => ?_
    refine wg hF rfl rfl rfl (gv_sliceLo (lo := 16) rfl u22 z5 (hF.t rfl) (hF.t rfl) (by omega)) fun a hF => ?_
    refine wg hF rfl rfl rfl (gv_nilCheck rfl (hF.t rfl)) fun a hF => ?_
    refine wg hF rfl rfl rfl (gv_field (r := 6) rfl u53 rfl rfl z22 (by decide) (hF.t rfl)) fun a hF => ?_
    refine wpList_stp (stp_storeAt (6) hF (wanted_none rfl) rfl rfl z22 (hF.t rfl) (by omega) (hF.t rfl) rfl hS (k := 1) rfl (by simp) fun w hS => ?_)
    refine wN ?_
    refine then_normal ?_
    replace hS := hS.move (k := 1) rfl
    replace hS := hS.move (k := 1) rfl
    replace hS := hS.move (k := 2) rfl
    simp only [List.set_cons_zero, List.set_cons_succ, List.eraseIdx_cons_succ, List.eraseIdx_cons_zero] at hS
    exact ⟨turned kl il at_ (B.take 16), _, _, B.drop 16, at_ + 16, [_, _], by rw [turned_len, hdl], (nw_cons rfl (nw_cons rfl nw_nil)), by rw [List.length_drop]; omega, by omega, own_rd (ob := some q) (List.mem_append_right _ List.mem_cons_self) (fun h => by cases h) (by rw [turned_len, hdl]) qc, by rw [List.map_drop]; exact (hB0.cutLo (lo := 16) (by omega)).mono (fun e he => List.mem_append_left _ he), by rw [nextQ, if_neg Bool.false_ne_true]; exact if_neg (by show ¬ B.length < 16; omega), hF.sub ⟨rfl, rfl, trivial⟩, stB2 hS⟩
  ·
   obtain ⟨hhl, hh⟩ := hh
   have hh0 := hh
   replace hh := hh0.mono h0
   obtain ⟨Ah, ch, rfl, _, _, hcl⟩ := (hh w _ hS (nw_cons rfl hT) (fun e he => List.mem_cons_of_mem _ (he))).isB
   obtain ⟨bh, oh, rfl, _⟩ := hcl (by omega)
   refine wK fun Kq12 hKq12 => ?_
   refine wR ?_
   refine wg hF rfl rfl rfl (gv_move rfl (hF.t rfl)) fun a hF => ?_
   refine wg hF rfl rfl rfl (gv_nilCheck rfl (hF.t rfl)) fun a hF => ?_
   refine wg hF rfl rfl rfl (gv_field (r := 7) rfl u53 rfl rfl z22 (by decide) (hF.t rfl)) fun a hF => ?_
   refine wg hF rfl rfl rfl (gv_load rfl u22 rfl (hF.t rfl) (cell_ix (j := 7) (hS.cell (k := 0) rfl (rfl)) (by omega))) fun a hF => ?_
   refine wg hF rfl rfl rfl (gv_eqlNilS rfl u22 (hF.t rfl) (ev_const _ _)) fun a hF => ?_
   refine wN ?_
   refine tN (hKq12 _ _ ?_)
   refine wp_cond_false (hF.t rfl) ?_
   refine wp_skip ?_
   refine then_normal ?_
   exact ⟨hl, _, _, B, at_, [], hhl, (fun e he => by cases he), hBl, by omega, by rw [List.append_nil]; exact hh0, by rw [List.append_nil]; exact hB0, rfl, hF.sub ⟨rfl, rfl, trivial⟩, stB0 hS⟩
 ·
  rintro a w ⟨hl, hv, bv, B1, at1, Y, hhl, hYn, hB1l, hat1, hh, hB1, hst, hF, hS⟩
  obtain ⟨X, hX⟩ : ∃ X, X = T ++ Y := ⟨_, rfl⟩
  obtain ⟨X0, hX0⟩ : ∃ X0, X0 = T0 ++ Y := ⟨_, rfl⟩
  rw [← hX] at hS
  rw [← hX0] at hh hB1
  have hXX : ∀ e ∈ X0, e ∈ X := by
   subst hX hX0
   intro e he
   rcases List.mem_append.1 he with h | h
   ·
    exact List.mem_append_left _ (h0 e h)
   ·
    exact List.mem_append_right _ h
  have hh0 := hh
  replace hh := hh0.mono hXX
  have hB10 := hB1
  replace hB1 := hB10.mono hXX
  have hXn : ∀ e ∈ X, e.nw = true := by rw [hX]; exact nw_app hT hYn
  obtain ⟨Ah, ch, rfl, hhc, _, _⟩ := (hh w _ hS (nw_cons rfl hXn) (fun e he => List.mem_cons_of_mem _ (he))).isB
  obtain ⟨Ab, cb, rfl, hcb, _, _⟩ := (hB1 w _ hS (nw_cons rfl hXn) (fun e he => List.mem_cons_of_mem _ (he))).isB
  obtain ⟨N, hN⟩ : ∃ N, N = (u32A hl 4).toNat := ⟨_, rfl⟩
  have hNl := (u32A hl 4).toNat_lt
  have hsubT : ∀ e ∈ T, e ∈ X := fun e he => by rw [hX]; exact List.mem_append_left _ he
  have hkX := hk.mono hsubT
  have hiX := hi.mono hsubT
  have hmX := hm.mono hsubT
  refine wK fun Kq13 hKq13 => ?_
  refine wR ?_
  refine wg hF rfl rfl rfl (gv_move rfl (hF.t rfl)) fun a hF => ?_
  refine wg hF rfl rfl rfl (gv_nilCheck rfl (hF.t rfl)) fun a hF => ?_
  refine wg hF rfl rfl rfl (gv_field (r := 7) rfl u53 rfl rfl z22 (by decide) (hF.t rfl)) fun a hF => ?_
  refine wg hF rfl rfl rfl (gv_load rfl u22 rfl (hF.t rfl) (cell_ix (j := 7) (hS.cell (k := 0) rfl (rfl)) (by omega))) fun a hF => ?_
  refine wg hF rfl rfl rfl (gv_build rfl (EvP.map (EvP.cons (hF.t rfl) EvP.nil)) (build_curQ _)) fun a hF => ?_
  refine wpList_stp (stp_box (cs := [.slice Ah hl.length ch, vI 0, .bool false]) hF (wanted_none rfl) rfl rfl rfl (hF.t rfl) rfl hS fun cu a w hF hS => ?_)
  refine wg hF rfl rfl rfl (gv_assign rfl (hF.t rfl)) fun a hF => ?_
  refine wN ?_
  refine tN (hKq13 _ _ ?_)
  refine wK fun Kq14 hKq14 => ?_
  refine wR ?_
  refine wg hF rfl rfl rfl (gv_move rfl (hF.t rfl)) fun a hF => ?_
  refine wpList_stp (stp_call hF (wanted_none rfl) rfl rfl Tryd.ok74 rfl (Evs.cons (hF.t rfl) Evs.nil) (cu32_all (c := cu) (s := some hl) (bl := hl) (nw_cons rfl hXn) (hh.mono (fun e he => List.mem_cons_of_mem _ (he))) hhc (by omega) ⟨0, by omega, rfl, hS⟩) fun e w h => ?_)
  obtain ⟨rfl, hR⟩ := h
  refine ⟨_, rfl, fun a hF => ?_⟩
  obtain ⟨ci, cbad, hS⟩ := hR.st
  rw [u32R_hd (by omega), ← hN] at hF
  replace hS := hS.drop rfl
  refine wg hF rfl rfl rfl (gv_assign rfl (hF.t rfl)) fun a hF => ?_
  refine wN ?_
  refine tN (hKq14 _ _ ?_)
  refine wK fun Kq15 hKq15 => ?_
  refine wK fun Kq16 hKq16 => ?_
  refine wR ?_
  refine wg hF rfl rfl rfl (gv_move rfl (hF.t rfl)) fun a hF => ?_
  refine wg hF rfl rfl rfl (gv_lss rfl (hF.t rfl) (ev_const _ _)) fun a hF => ?_
  refine wg hF rfl rfl rfl (gv_move rfl (hF.t rfl)) fun a hF => ?_
  refine wpList_stp (stp_gvG' hF rfl rfl rfl rfl rfl (fun hg => gv_move rfl (hF.t rfl)) fun a hF => ?_)
  refine wpList_stp (stp_gvG' hF rfl rfl rfl rfl rfl (fun hg => gv_gtr rfl ((hF.t rfl).trans (if_neg hg)) (ev_const _ _)) fun a hF => ?_)
  refine wg hF rfl rfl rfl (gv_pickOr rfl (hF.t rfl) (ev_const _ _) (hF.t rfl)) fun a hF => ?_
  refine wg hF rfl rfl rfl (gv_move rfl (hF.t rfl)) fun a hF => ?_
  refine wpList_stp (stp_gvG' hF rfl rfl rfl rfl rfl (fun hg => gv_move rfl (hF.t rfl)) fun a hF => ?_)
  refine wpList_stp (stp_gvG' hF rfl rfl rfl rfl rfl (fun hg => gv_nadd (n := 4) rfl ((hF.t rfl).trans (if_neg hg)) rfl (by omega)) fun a hF => ?_)
  refine wpList_stp (stp_gvG' hF rfl rfl rfl rfl rfl (fun hg => gv_move rfl (hF.t rfl)) fun a hF => ?_)
  refine wpList_stp (stp_gvG' hF rfl rfl rfl rfl rfl (fun hg => gv_nrem (n := 16) rfl ((hF.t rfl).trans (if_neg hg)) ((hF.t rfl).trans (if_neg hg)) (by omega)) fun a hF => ?_)
  refine wpList_stp (stp_gvG' hF rfl rfl rfl rfl rfl (fun hg => gv_neq rfl ((hF.t rfl).trans (if_neg hg)) (ev_const _ _)) fun a hF => ?_)
  refine wg hF rfl rfl rfl (gv_pickOr rfl (hF.t rfl) (ev_const _ _) (hF.t rfl)) fun a hF => ?_
  refine wN ?_
  refine tN (hKq16 _ _ ?_)
  refine cond_dec (hF.t rfl) (fun h87 => ?_) (fun h87 => ?_)
  ·
   refine wK fun Kq17 hKq17 => ?_
   refine wR ?_
   refine wg hF rfl rfl rfl (gv_move rfl (hF.t rfl)) fun a hF => ?_
   refine wg hF rfl rfl rfl (gv_nilCheck rfl (hF.t rfl)) fun a hF => ?_
   refine wg hF rfl rfl rfl (gv_field (r := 8) rfl u53 rfl rfl z4 (by decide) (hF.t rfl)) fun a hF => ?_
   refine wpList_stp (stp_storeAt (8) hF (wanted_none rfl) rfl rfl z4 (hF.t rfl) (by omega) (ev_const _ _) rfl hS (k := 0) rfl (by simp) fun w hS => ?_)
   refine wN ?_
   refine tN (hKq17 _ _ ?_)
   refine wK fun Kq18 hKq18 => ?_
   refine wR ?_
   refine wg hF rfl rfl rfl (gv_assign rfl (ev_const _ _)) fun a hF => ?_
   refine wg hF rfl rfl rfl (gv_assign rfl (ev_const _ _)) fun a hF => ?_
   refine wN ?_
   refine tN (hKq18 _ _ ?_)
   refine wp_ret ?_
   refine then_ret ?_
   refine ret2 (fn := Tryd.f58) (t := 2) (u := 3) hF rfl rfl rfl ?_
   rw [hst, step2, if_pos (by show (((u32A hl 4).toNat < 5 ∨ 2348 < (u32A hl 4).toNat) ∨ ¬ ((u32A hl 4).toNat + 4) % 16 = 0); omega)]
   exact NextP.mk' hX hX0 hYn (fun e he => by cases he) (stB0 hS) (by rw [List.append_nil]; exact hB10) (by rw [List.append_nil]; exact ⟨hhl, hh0⟩) SRd.nil
  ·
   refine wp_skip ?_
   refine tN (hKq15 _ _ ?_)
   refine wK fun Kq19 hKq19 => ?_
   refine wR ?_
   refine wg hF rfl rfl rfl (gv_move rfl (hF.t rfl)) fun a hF => ?_
   refine wg hF rfl rfl rfl (gv_nadd (n := 4) rfl (hF.t rfl) rfl (by omega)) fun a hF => ?_
   refine wg hF rfl rfl rfl (gv_move rfl (hF.t rfl)) fun a hF => ?_
   refine wg hF rfl rfl rfl (gv_nsub (n := 16) rfl (hF.t rfl) (hF.t rfl) (by omega) (by omega)) fun a hF => ?_
   refine wg hF rfl rfl rfl (gv_assign rfl (hF.t rfl)) fun a hF => ?_
   refine wN ?_
   refine tN (hKq19 _ _ ?_)
   refine wK fun Kq20 hKq20 => ?_
   refine wR ?_
   refine wg hF rfl rfl rfl (gv_assign rfl (ev_const _ _)) fun a hF => ?_
   refine wN ?_
   refine tN (hKq20 _ _ ?_)
   refine wK fun Kq21 hKq21 => ?_
   refine wK fun Kq22 hKq22 => ?_
   refine wR ?_
   refine wg hF rfl rfl rfl (gv_move rfl (hF.t rfl)) fun a hF => ?_
   refine wg hF rfl rfl rfl (gv_nilCheck rfl (hF.t rfl)) fun a hF => ?_
   refine wg hF rfl rfl rfl (gv_field (r := 0) rfl u53 rfl rfl z50 (by decide) (hF.t rfl)) fun a hF => ?_
   refine wg hF rfl rfl rfl (gv_field (r := 0) rfl u50 rfl rfl z22 (by decide) (hF.t rfl)) fun a hF => ?_
   refine wg hF rfl rfl rfl (gv_load rfl u22 rfl (hF.t rfl) (cell_ix (j := 0) (hS.cell (k := 0) rfl (rfl)) (by omega))) fun a hF => ?_
   refine wg hF rfl rfl rfl (gv_neqNilS rfl u22 (hF.t rfl) (ev_const _ _)) fun a hF => ?_
   refine wN ?_
   refine tN (hKq22 _ _ ?_)
   refine wp_cond_true (hF.t rfl) ?_
   refine wR ?_
   refine wg hF rfl rfl rfl (gv_assign rfl (ev_const _ _)) fun a hF => ?_
   refine wN ?_
   refine tN (hKq21 _ _ ?_)
   refine wK fun Kq23 hKq23 => ?_
   refine wK fun Kq24 hKq24 => ?_
   refine wR ?_
   refine wg hF rfl rfl rfl (gv_move rfl (hF.t rfl)) fun a hF => ?_
   refine wg hF rfl rfl rfl (gv_nilCheck rfl (hF.t rfl)) fun a hF => ?_
   refine wg hF rfl rfl rfl (gv_field (r := 6) rfl u53 rfl rfl z22 (by decide) (hF.t rfl)) fun a hF => ?_
   refine wg hF rfl rfl rfl (gv_load rfl u22 rfl (hF.t rfl) (cell_ix (j := 6) (hS.cell (k := 0) rfl (rfl)) (by omega))) fun a hF => ?_
   refine wg hF rfl rfl rfl (gv_len rfl u22 (hF.t rfl)) fun a hF => ?_
   refine wg hF rfl rfl rfl (gv_move rfl (hF.t rfl)) fun a hF => ?_
   refine wg hF rfl rfl rfl (gv_move rfl (hF.t rfl)) fun a hF => ?_
   refine wg hF rfl rfl rfl (gv_nadd (n := 32) rfl (hF.t rfl) (hF.t rfl) (by omega)) fun a hF => ?_
   refine wg hF rfl rfl rfl (gv_lss rfl (hF.t rfl) (hF.t rfl)) fun a hF => ?_
   refine wN ?_
   refine tN (hKq24 _ _ ?_)
   refine cond_dec (hF.t rfl) (fun h109 => ?_) (fun h109 => ?_)
   ·
    refine wK fun Kq25 hKq25 => ?_
    refine wR ?_
    refine wg hF rfl rfl rfl (gv_assign rfl (ev_const _ _)) fun a hF => ?_
    refine wg hF rfl rfl rfl (gv_assign rfl (ev_const _ _)) fun a hF => ?_
    refine wN ?_
    refine tN (hKq25 _ _ ?_)
    refine wp_ret ?_
    refine then_ret ?_
    refine ret2 (fn := Tryd.f58) (t := 2) (u := 3) hF rfl rfl rfl ?_
    rw [hst, step2, if_neg (by show ¬ (((u32A hl 4).toNat < 5 ∨ 2348 < (u32A hl 4).toNat) ∨ ¬ ((u32A hl 4).toNat + 4) % 16 = 0); omega), if_pos (by show B1.length < (u32A hl 4).toNat + 4 - 16 + 32; omega)]
    exact NextP.mk' hX hX0 hYn (fun e he => by cases he) (stB0 hS) (by rw [List.append_nil]; exact hB10) (by rw [List.append_nil]; exact ⟨hhl, hh0⟩) SRd.nil
   ·
    refine wp_skip ?_
    refine tN (hKq23 _ _ ?_)
    refine wK fun Kq26 hKq26 => ?_
    refine wR ?_
    refine wg hF rfl rfl rfl (gv_move rfl (hF.t rfl)) fun a hF => ?_
    refine wg hF rfl rfl rfl (gv_nilCheck rfl (hF.t rfl)) fun a hF => ?_
    refine wg hF rfl rfl rfl (gv_field (r := 7) rfl u53 rfl rfl z22 (by decide) (hF.t rfl)) fun a hF => ?_
    refine wg hF rfl rfl rfl (gv_load rfl u22 rfl (hF.t rfl) (cell_ix (j := 7) (hS.cell (k := 0) rfl (rfl)) (by omega))) fun a hF => ?_
    replace hS := hS.addNil (blk 5 (([] : List UInt8).map vB ++ []))
    refine wpList_stp (stp_appB (ob := none) (l := []) (pad := []) (k := 0) hF (wanted_none rfl) rfl rfl rfl u22 Tryd.ty5 rfl (ev_const _ _) (hF.t rfl) hS rfl (fun _ => ⟨rfl, rfl⟩) (by simp) (hh w _ hS (nw_cons rfl (nw_cons rfl hXn)) (fun e he => List.mem_cons_of_mem _ (List.mem_cons_of_mem _ (he)))) (by simp only [List.length_nil]; omega) fun p pp a w hF po pc hS => ?_)
    simp only [List.nil_append] at hF po pc hS
    refine wg hF rfl rfl rfl (gv_assign rfl (hF.t rfl)) fun a hF => ?_
    refine wN ?_
    refine tN (hKq26 _ _ ?_)
    refine wK fun Kq27 hKq27 => ?_
    refine wK fun Kq28 hKq28 => ?_
    refine wR ?_
    refine wg hF rfl rfl rfl (gv_move rfl (hF.t rfl)) fun a hF => ?_
    refine wg hF rfl rfl rfl (gv_nilCheck rfl (hF.t rfl)) fun a hF => ?_
    refine wg hF rfl rfl rfl (gv_field (r := 0) rfl u53 rfl rfl z50 (by decide) (hF.t rfl)) fun a hF => ?_
    refine wg hF rfl rfl rfl (gv_field (r := 0) rfl u50 rfl rfl z22 (by decide) (hF.t rfl)) fun a hF => ?_
    refine wg hF rfl rfl rfl (gv_load rfl u22 rfl (hF.t rfl) (cell_ix (j := 0) (hS.cell (k := 1) rfl (rfl)) (by omega))) fun a hF => ?_
    refine wg hF rfl rfl rfl (gv_neqNilS rfl u22 (hF.t rfl) (ev_const _ _)) fun a hF => ?_
    refine wN ?_
    refine tN (hKq28 _ _ ?_)
    refine wp_cond_true (hF.t rfl) ?_
    refine wK fun Kq29 hKq29 => ?_
    refine Fw.wp_region_draw (by kernel_rfl) fun w hx => ?_
    replace hS := hS.ext hx
    clear hx
    refine run_swalkI ⟨fun w => ∃ q H, St w00 w H ∧ (rdE r (.slice (some ⟨kb, ko, none⟩) 16 kc) iv mv q sq n (.slice Ab B1.length cb) (.slice Ah hl.length ch) false) ∈ H, w, ⟨_, _, hS, (List.mem_of_getElem? (i := 1) rfl)⟩⟩ _ 0 12 [10, 11] [[10]] _ (⟨_, _, hS, (List.mem_of_getElem? (i := 1) rfl)⟩) (by kernel_rfl) (by kernel_rfl) rfl hF.size ?_
    refine sg hF rfl rfl rfl rfl (fun w hx => gv_move rfl (hF.t rfl)) fun a hF => ?_
    refine sg hF rfl rfl rfl rfl (fun w hx => gv_move rfl (hF.t rfl)) fun a hF => ?_
    refine sg hF rfl rfl rfl rfl (fun w hx => gv_nilCheck rfl (hF.t rfl)) fun a hF => ?_
    refine sg hF rfl rfl rfl rfl (fun w hx => gv_field (r := 0) rfl u53 rfl rfl z50 (by decide) (hF.t rfl)) fun a hF => ?_
    refine sg hF rfl rfl rfl rfl (fun w hx => gv_move rfl (hF.t rfl)) fun a hF => ?_
    refine sg hF rfl rfl rfl rfl (fun w hx => gv_nilCheck rfl (hF.t rfl)) fun a hF => ?_
    refine sg hF rfl rfl rfl rfl (fun w hx => gv_field (r := 6) rfl u53 rfl rfl z22 (by decide) (hF.t rfl)) fun a hF => ?_
    refine sg hF rfl rfl rfl rfl (fun w hx => by obtain ⟨q, H, hI, hm2⟩ := hx; exact gv_load rfl u22 rfl (hF.t rfl) (cell_ix (cellIn (i := 6) hI hm2 rfl) (by omega))) fun a hF => ?_
    refine sg hF rfl rfl rfl rfl (fun w hx => gv_move rfl (hF.t rfl)) fun a hF => ?_
    refine sg hF rfl rfl rfl rfl (fun w hx => gv_sliceHi rfl u22 z5 (hF.t rfl) (hF.t rfl) (by omega)) fun a hF => ?_
    replace hS := hS.move (k := 1) rfl
    simp only [List.set_cons_zero, List.set_cons_succ, List.eraseIdx_cons_succ, List.eraseIdx_cons_zero] at hS
    have hcutT : SRd w00 X (.slice Ab (N + 4 - 16) cb) ((B1.take (N + 4 - 16)).map vB) := by rw [List.map_take]; exact hB1.cutHi (by omega)
    have htl : (B1.take (N + 4 - 16)).length = (N + 4 - 16) := by rw [List.length_take]; omega
    refine sw_eff rfl (stp_call hF (wanted_none rfl) rfl rfl Tryd.ok57 rfl (Evs.cons (hF.t rfl) (Evs.cons (hF.t rfl) Evs.nil)) (hturn_ok (bl := B1.take (N + 4 - 16)) (nw_cons rfl hXn) hS (hkX.mono (fun e he => List.mem_cons_of_mem _ (he))) (hiX.mono (fun e he => List.mem_cons_of_mem _ (he))) hkl hil (hcutT.mono (fun e he => List.mem_cons_of_mem _ (he))) (by omega) (by omega)) fun e w h => ?_)
    obtain ⟨q, qp, rfl, qo, qc, hS⟩ := h
    refine ⟨_, rfl, fun a hF => ?_⟩
    rw [htl] at hF hS qc
    refine ⟨⟨_, _, hS, (List.mem_of_getElem? (i := 1) rfl)⟩, ?_⟩
    have hRq : Rd w (ownV q (N + 4 - 16) ((N + 4 - 16) + qp.length)) ((turned kl il at1 (B1.take (N + 4 - 16))).map vB) := (own_rd (w0 := w00) (ob := q) (l := turned kl il at1 (B1.take (N + 4 - 16))) (List.mem_of_getElem? (i := 0) rfl) qo (by rw [turned_len, htl]) qc) w _ hS (nw_cons rfl (nw_cons rfl (nw_cons rfl hXn))) (fun e he => he)
    refine sw_eff rfl (stp_appB (k := 2) hF (wanted_none rfl) rfl rfl rfl u22 Tryd.ty5 rfl (hF.t rfl) (hF.t rfl) hS rfl po pc hRq (by rw [turned_len, htl]; omega) fun p pp a w hF po pc hS => ?_)
    refine ⟨⟨_, _, hS, (List.mem_of_getElem? (i := 1) rfl)⟩, ?_⟩
    refine sw_nil ?_
    refine run_stp (by kernel_rfl) rfl (stp_gv hF (wanted_none rfl) rfl rfl (gv_assign rfl (hF.t rfl)) fun a hF => ?_)
    obtain ⟨P, hP⟩ : ∃ P, P = (hl ++ turned kl il at1 (B1.take (N + 4 - 16))) := ⟨_, rfl⟩
    rw [← hP] at hF hS po pc
    have hPl : P.length = N + 4 := by rw [hP, List.length_append, turned_len, List.length_take]; omega
    obtain ⟨p, rfl⟩ := own_some po (by omega)
    have hp4 := (P.getD 4 0).toNat_lt
    refine run_done (by decide) ?_
    refine tN (hKq29 _ _ ?_)
    refine wK fun Kq30 hKq30 => ?_
    refine Fw.wp_region_draw (by kernel_rfl) fun w hx => ?_
    replace hS := hS.ext hx
    clear hx
    refine run_swalk _ 0 16 [4, 5] [[4]] _ (by kernel_rfl) (by kernel_rfl) rfl hF.size ?_
    have hO := hS
    clear hS
    have hS := St.refl w
    refine sg hF rfl rfl rfl rfl (fun w hx => gv_move rfl (hF.t rfl)) fun a hF => ?_
    refine sg hF rfl rfl rfl rfl (fun w hx => gv_nilCheck rfl (hF.t rfl)) fun a hF => ?_
    refine sg hF rfl rfl rfl rfl (fun w hx => gv_field (r := 0) rfl u53 rfl rfl z50 (by decide) (hF.t rfl)) fun a hF => ?_
    refine sg hF rfl rfl rfl rfl (fun w hx => gv_move rfl (hF.t rfl)) fun a hF => ?_
    refine sw_eff rfl (stp_call hF (wanted_none rfl) rfl rfl Tryd.ok56 rfl (Evs.cons (hF.t rfl) (Evs.cons (hF.t rfl) Evs.nil)) (hcode_ok (sq := sq) ((hO.ext (hS.toExt nw_nil)).cell (k := 1) (i := 2) rfl rfl) ((hO.ext (hS.toExt nw_nil)).cell (k := 1) (i := 4) rfl rfl) (hmX w _ (hO.ext (hS.toExt nw_nil)) (nw_cons rfl (nw_cons rfl (nw_cons rfl hXn))) (fun e he => List.mem_cons_of_mem _ (List.mem_cons_of_mem _ (List.mem_cons_of_mem _ (he))))) hml ((own_rd (w0 := w00) (ob := some p) (l := P) (List.mem_of_getElem? (i := 2) rfl) (fun h => by cases h) rfl pc) w _ (hO.ext (hS.toExt nw_nil)) (nw_cons rfl (nw_cons rfl (nw_cons rfl hXn))) (fun e he => he)) (by omega) (by omega)) fun e w h => ?_)
    obtain ⟨cd, cdp, rfl, cc, hN2⟩ := h
    refine ⟨_, rfl, fun a hF => ?_⟩
    replace hS := hS.join hN2 (nw_cons rfl nw_nil)
    simp only [List.cons_append, List.nil_append] at hS
    clear hN2
    refine ⟨hS.toExt (nw_cons rfl nw_nil), ?_⟩
    refine sw_eff rfl (stp_gv hF (wanted_none rfl) rfl rfl (gv_convStr rfl u22 u5 u9 (hF.t rfl) (rd_own (l := codeF (UInt32.ofNat sq) ml P) hS List.mem_cons_self (nw_cons rfl nw_nil) (fun h => by cases h) (codeF_len _ _ _) cc)) fun a hF => ?_)
    refine ⟨hS.toExt (nw_cons rfl nw_nil), ?_⟩
    refine sg hF rfl rfl rfl rfl (fun w hx => gv_move rfl (hF.t rfl)) fun a hF => ?_
    refine sg hF rfl rfl rfl rfl (fun w hx => gv_nilCheck rfl (hF.t rfl)) fun a hF => ?_
    refine sg hF rfl rfl rfl rfl (fun w hx => gv_field (r := 6) rfl u53 rfl rfl z22 (by decide) (hF.t rfl)) fun a hF => ?_
    refine sg hF rfl rfl rfl rfl (fun w hx => gv_load rfl u22 rfl (hF.t rfl) (cell_ix (j := 6) ((hO.ext hx).cell (k := 1) rfl (rfl)) (by omega))) fun a hF => ?_
    refine sg hF rfl rfl rfl rfl (fun w hx => gv_move rfl (hF.t rfl)) fun a hF => ?_
    refine sg hF rfl rfl rfl rfl (fun w hx => gv_move rfl (hF.t rfl)) fun a hF => ?_
    refine sg hF rfl rfl rfl rfl (fun w hx => gv_nadd (n := 32) rfl (hF.t rfl) rfl (by omega)) fun a hF => ?_
    refine sg hF rfl rfl rfl rfl (fun w hx => gv_slice2 rfl u22 z5 (hF.t rfl) (hF.t rfl) (hF.t rfl) (by omega) (by omega)) fun a hF => ?_
    refine sg hF rfl rfl rfl rfl (fun w hx => gv_convStr (l := (B1.take ((N + 4 - 16) + 32)).drop (N + 4 - 16)) rfl u22 u5 u9 (hF.t rfl) (by rw [List.map_drop, List.map_take]; exact (hB1.cut3 (by omega) (by omega) (by omega) (by omega)) w _ (hO.ext hx) (nw_cons rfl (nw_cons rfl (nw_cons rfl hXn))) (fun e he => List.mem_cons_of_mem _ (List.mem_cons_of_mem _ (List.mem_cons_of_mem _ (he)))))) fun a hF => ?_
    refine sg hF rfl rfl rfl rfl (fun w hx => gv_strNeq rfl (hF.t rfl) (hF.t rfl)) fun a hF => ?_
    refine sw_nil ?_
    replace hS := hO.join hS (nw_cons rfl nw_nil)
    simp only [List.cons_append, List.nil_append] at hS
    clear hO
    refine run_done (by decide) ?_
    refine tN (hKq30 _ _ ?_)
    refine cond_dec (hF.t rfl) (fun h148 => ?_) (fun h148 => ?_)
    ·
     refine wK fun Kq31 hKq31 => ?_
     refine wR ?_
     refine wg hF rfl rfl rfl (gv_move rfl (hF.t rfl)) fun a hF => ?_
     refine wg hF rfl rfl rfl (gv_nilCheck rfl (hF.t rfl)) fun a hF => ?_
     refine wg hF rfl rfl rfl (gv_field (r := 8) rfl u53 rfl rfl z4 (by decide) (hF.t rfl)) fun a hF => ?_
     refine wpList_stp (stp_storeAt (8) hF (wanted_none rfl) rfl rfl z4 (hF.t rfl) (by omega) (ev_const _ _) rfl hS (k := 2) rfl (by simp) fun w hS => ?_)
     refine wN ?_
     refine tN (hKq31 _ _ ?_)
     refine wK fun Kq32 hKq32 => ?_
     refine wR ?_
     refine wg hF rfl rfl rfl (gv_assign rfl (ev_const _ _)) fun a hF => ?_
     refine wg hF rfl rfl rfl (gv_assign rfl (ev_const _ _)) fun a hF => ?_
     refine wN ?_
     refine tN (hKq32 _ _ ?_)
     refine wp_ret ?_
     refine then_ret ?_
     refine ret2 (fn := Tryd.f58) (t := 2) (u := 3) hF rfl rfl rfl ?_
     replace hS := hS.move (k := 2) rfl
     replace hS := hS.move (k := 3) rfl
     replace hS := hS.move (k := 3) rfl
     replace hS := hS.move (k := 3) rfl
     simp only [List.set_cons_zero, List.set_cons_succ, List.eraseIdx_cons_succ, List.eraseIdx_cons_zero] at hS
     replace hS := ((hS.drop rfl).drop rfl).drop rfl
     rw [hst, step2, if_neg (by show ¬ (((u32A hl 4).toNat < 5 ∨ 2348 < (u32A hl 4).toNat) ∨ ¬ ((u32A hl 4).toNat + 4) % 16 = 0); omega), if_neg (by show ¬ B1.length < (u32A hl 4).toNat + 4 - 16 + 32; omega)]
     show NextP _ _ _ _ _ _ _ _ (step3 ⟨some (kl, il, ml), advQ (some (kl, il, ml)) at1 ((u32A hl 4).toNat + 4 - 16), sq, n, B1, some hl, false⟩ (hl ++ turnQ (some (kl, il, ml)) at1 (B1.take ((u32A hl 4).toNat + 4 - 16))) ((u32A hl 4).toNat + 4 - 16)) _ _
     rw [← hN]
     show NextP _ _ _ _ _ _ _ _ (step3 ⟨some (kl, il, ml), (at1 + (N + 4 - 16)), sq, n, B1, some hl, false⟩ (hl ++ turned kl il at1 (B1.take (N + 4 - 16))) (N + 4 - 16)) _ _
     rw [← hP, step3]
     rw [if_pos (by show codeF (UInt32.ofNat sq) ml P ≠ (B1.take ((N + 4 - 16) + 32)).drop (N + 4 - 16); exact h148)]
     exact NextP.mk' hX hX0 hYn (fun e he => by cases he) (stB0 hS) (by rw [List.append_nil]; exact hB10) (by rw [List.append_nil]; exact ⟨hhl, hh0⟩) SRd.nil
    ·
     refine wp_skip ?_
     refine tN (hKq27 _ _ ?_)
     refine wK fun Kq33 hKq33 => ?_
     refine wR ?_
     refine wg hF rfl rfl rfl (gv_move rfl (hF.t rfl)) fun a hF => ?_
     refine wg hF rfl rfl rfl (gv_move rfl (hF.t rfl)) fun a hF => ?_
     refine wg hF rfl rfl rfl (gv_nilCheck rfl (hF.t rfl)) fun a hF => ?_
     refine wg hF rfl rfl rfl (gv_field (r := 6) rfl u53 rfl rfl z22 (by decide) (hF.t rfl)) fun a hF => ?_
     refine wg hF rfl rfl rfl (gv_load rfl u22 rfl (hF.t rfl) (cell_ix (j := 6) (hS.cell (k := 2) rfl (rfl)) (by omega))) fun a hF => ?_
     refine wg hF rfl rfl rfl (gv_move rfl (hF.t rfl)) fun a hF => ?_
     refine wg hF rfl rfl rfl (gv_move rfl (hF.t rfl)) fun a hF => ?_
     refine wg hF rfl rfl rfl (gv_nadd (n := 32) rfl (hF.t rfl) (hF.t rfl) (by omega)) fun a hF => ?_
     refine wg hF rfl rfl rfl (gv_sliceLo rfl u22 z5 (hF.t rfl) (hF.t rfl) (by omega)) fun a hF => ?_
     refine wg hF rfl rfl rfl (gv_nilCheck rfl (hF.t rfl)) fun a hF => ?_
     refine wg hF rfl rfl rfl (gv_field (r := 6) rfl u53 rfl rfl z22 (by decide) (hF.t rfl)) fun a hF => ?_
     refine wpList_stp (stp_storeAt (6) hF (wanted_none rfl) rfl rfl z22 (hF.t rfl) (by omega) (hF.t rfl) rfl hS (k := 2) rfl (by simp) fun w hS => ?_)
     refine wN ?_
     refine tN (hKq33 _ _ ?_)
     refine wK fun Kq34 hKq34 => ?_
     refine wR ?_
     refine wg hF rfl rfl rfl (gv_move rfl (hF.t rfl)) fun a hF => ?_
     refine wg hF rfl rfl rfl (gv_nilCheck rfl (hF.t rfl)) fun a hF => ?_
     refine wg hF rfl rfl rfl (gv_field (r := 7) rfl u53 rfl rfl z22 (by decide) (hF.t rfl)) fun a hF => ?_
     refine wpList_stp (stp_storeAt (7) hF (wanted_none rfl) rfl rfl z22 (hF.t rfl) (by omega) (ev_const _ _) rfl hS (k := 2) rfl (by simp) fun w hS => ?_)
     refine wN ?_
     refine tN (hKq34 _ _ ?_)
     refine wK fun Kq35 hKq35 => ?_
     refine wR ?_
     refine wg hF rfl rfl rfl (gv_move rfl (hF.t rfl)) fun a hF => ?_
     refine wg hF rfl rfl rfl (gv_indexSl (q := 4) rfl u22 z5 (hF.t rfl) rfl (by omega)) fun a hF => ?_
     refine wg hF rfl rfl rfl (gv_load rfl u5 rfl (hF.t rfl) (cell_ix (j := 4) (hS.cell (k := 3) rfl (at_map (by omega) 0)) (by omega))) fun a hF => ?_
     refine wg hF rfl rfl rfl (gv_conv_b_i rfl u5 u3 (hF.t rfl)) fun a hF => ?_
     refine wg hF rfl rfl rfl (gv_assign rfl (hF.t rfl)) fun a hF => ?_
     refine wN ?_
     refine tN (hKq35 _ _ ?_)
     refine wK fun Kq36 hKq36 => ?_
     refine wK fun Kq37 hKq37 => ?_
     refine wR ?_
     refine wg hF rfl rfl rfl (gv_move rfl (hF.t rfl)) fun a hF => ?_
     refine wg hF rfl rfl rfl (gv_lss rfl (hF.t rfl) (ev_const _ _)) fun a hF => ?_
     refine wg hF rfl rfl rfl (gv_move rfl (hF.t rfl)) fun a hF => ?_
     refine wpList_stp (stp_gvG' hF rfl rfl rfl rfl rfl (fun hg => gv_move rfl (hF.t rfl)) fun a hF => ?_)
     refine wpList_stp (stp_gvG' hF rfl rfl rfl rfl rfl (fun hg => gv_len rfl u22 ((hF.t rfl).trans (if_neg hg))) fun a hF => ?_)
     refine wpList_stp (stp_gvG' hF rfl rfl rfl rfl rfl (fun hg => gv_nsub (n := 5) rfl ((hF.t rfl).trans (if_neg hg)) rfl (by omega) (by omega)) fun a hF => ?_)
     refine wpList_stp (stp_gvG' hF rfl rfl rfl rfl rfl (fun hg => gv_move rfl (hF.t rfl)) fun a hF => ?_)
     refine wpList_stp (stp_gvG' hF rfl rfl rfl rfl rfl (fun hg => gv_sub rfl ((hF.t rfl).trans (if_neg hg)) ((hF.t rfl).trans (if_neg hg)) (by omega) (by omega)) fun a hF => ?_)
     refine wpList_stp (stp_gvG' hF rfl rfl rfl rfl rfl (fun hg => gv_lss rfl ((hF.t rfl).trans (if_neg hg)) (ev_const _ _)) fun a hF => ?_)
     refine wg hF rfl rfl rfl (gv_pickOr rfl (hF.t rfl) (ev_const _ _) (hF.t rfl)) fun a hF => ?_
     refine wN ?_
     refine tN (hKq37 _ _ ?_)
     refine cond_dec (hF.t rfl) (fun h187 => ?_) (fun h187 => ?_)
     ·
      refine wK fun Kq38 hKq38 => ?_
      refine wR ?_
      refine wg hF rfl rfl rfl (gv_move rfl (hF.t rfl)) fun a hF => ?_
      refine wg hF rfl rfl rfl (gv_nilCheck rfl (hF.t rfl)) fun a hF => ?_
      refine wg hF rfl rfl rfl (gv_field (r := 8) rfl u53 rfl rfl z4 (by decide) (hF.t rfl)) fun a hF => ?_
      refine wpList_stp (stp_storeAt (8) hF (wanted_none rfl) rfl rfl z4 (hF.t rfl) (by omega) (ev_const _ _) rfl hS (k := 2) rfl (by simp) fun w hS => ?_)
      refine wN ?_
      refine tN (hKq38 _ _ ?_)
      refine wK fun Kq39 hKq39 => ?_
      refine wR ?_
      refine wg hF rfl rfl rfl (gv_assign rfl (ev_const _ _)) fun a hF => ?_
      refine wg hF rfl rfl rfl (gv_assign rfl (ev_const _ _)) fun a hF => ?_
      refine wN ?_
      refine tN (hKq39 _ _ ?_)
      refine wp_ret ?_
      refine then_ret ?_
      refine ret2 (fn := Tryd.f58) (t := 2) (u := 3) hF rfl rfl rfl ?_
      replace hS := hS.move (k := 2) rfl
      replace hS := hS.move (k := 3) rfl
      replace hS := hS.move (k := 3) rfl
      replace hS := hS.move (k := 3) rfl
      simp only [List.set_cons_zero, List.set_cons_succ, List.eraseIdx_cons_succ, List.eraseIdx_cons_zero] at hS
      replace hS := (hS.drop rfl).drop rfl
      rw [hst, step2, if_neg (by show ¬ (((u32A hl 4).toNat < 5 ∨ 2348 < (u32A hl 4).toNat) ∨ ¬ ((u32A hl 4).toNat + 4) % 16 = 0); omega), if_neg (by show ¬ B1.length < (u32A hl 4).toNat + 4 - 16 + 32; omega)]
      show NextP _ _ _ _ _ _ _ _ (step3 ⟨some (kl, il, ml), advQ (some (kl, il, ml)) at1 ((u32A hl 4).toNat + 4 - 16), sq, n, B1, some hl, false⟩ (hl ++ turnQ (some (kl, il, ml)) at1 (B1.take ((u32A hl 4).toNat + 4 - 16))) ((u32A hl 4).toNat + 4 - 16)) _ _
      rw [← hN]
      show NextP _ _ _ _ _ _ _ _ (step3 ⟨some (kl, il, ml), (at1 + (N + 4 - 16)), sq, n, B1, some hl, false⟩ (hl ++ turned kl il at1 (B1.take (N + 4 - 16))) (N + 4 - 16)) _ _
      rw [← hP, step3]
      rw [if_neg (by show ¬ (codeF (UInt32.ofNat sq) ml P ≠ (B1.take ((N + 4 - 16) + 32)).drop (N + 4 - 16)); exact h148), step4, if_pos (by omega)]
      exact NextP.mk' hX hX0 hYn (nw_cons rfl nw_nil) (stB1 hS) (by show SRd _ _ _ ((B1.drop ((N + 4 - 16) + 32)).map vB); rw [List.map_drop]; exact (hB10.cutLo (lo := (N + 4 - 16) + 32) (by omega)).mono (fun e he => List.mem_append_left _ he)) rfl SRd.nil
     ·
      refine wp_skip ?_
      refine tN (hKq36 _ _ ?_)
      refine wK fun Kq40 hKq40 => ?_
      refine wR ?_
      refine wg hF rfl rfl rfl (gv_move rfl (hF.t rfl)) fun a hF => ?_
      refine wg hF rfl rfl rfl (gv_nilCheck rfl (hF.t rfl)) fun a hF => ?_
      refine wg hF rfl rfl rfl (gv_field (r := 0) rfl u53 rfl rfl z50 (by decide) (hF.t rfl)) fun a hF => ?_
      refine wg hF rfl rfl rfl (gv_field (r := 4) rfl u50 rfl rfl z3 (by decide) (hF.t rfl)) fun a hF => ?_
      refine wg hF rfl rfl rfl (gv_load rfl u3 rfl (hF.t rfl) (cell_ix (j := 4) (hS.cell (k := 2) rfl (rfl)) (by omega))) fun a hF => ?_
      refine wg hF rfl rfl rfl (gv_nadd (n := 1) rfl (hF.t rfl) rfl (by omega)) fun a hF => ?_
      refine wg hF rfl rfl rfl (gv_nilCheck rfl (hF.t rfl)) fun a hF => ?_
      refine wg hF rfl rfl rfl (gv_field (r := 0) rfl u53 rfl rfl z50 (by decide) (hF.t rfl)) fun a hF => ?_
      refine wg hF rfl rfl rfl (gv_field (r := 4) rfl u50 rfl rfl z3 (by decide) (hF.t rfl)) fun a hF => ?_
      refine wpList_stp (stp_storeAt (4) hF (wanted_none rfl) rfl rfl z3 (hF.t rfl) (by omega) (hF.t rfl) rfl hS (k := 2) rfl (by simp) fun w hS => ?_)
      refine wN ?_
      refine tN (hKq40 _ _ ?_)
      refine wK fun Kq41 hKq41 => ?_
      refine wR ?_
      refine wg hF rfl rfl rfl (gv_move rfl (hF.t rfl)) fun a hF => ?_
      refine wg hF rfl rfl rfl (gv_nilCheck rfl (hF.t rfl)) fun a hF => ?_
      refine wg hF rfl rfl rfl (gv_field (r := 0) rfl u53 rfl rfl z50 (by decide) (hF.t rfl)) fun a hF => ?_
      refine wg hF rfl rfl rfl (gv_field (r := 5) rfl u50 rfl rfl z3 (by decide) (hF.t rfl)) fun a hF => ?_
      refine wg hF rfl rfl rfl (gv_load rfl u3 rfl (hF.t rfl) (cell_ix (j := 5) (hS.cell (k := 2) rfl (rfl)) (by omega))) fun a hF => ?_
      refine wg hF rfl rfl rfl (gv_nadd (n := 1) rfl (hF.t rfl) rfl (by omega)) fun a hF => ?_
      refine wg hF rfl rfl rfl (gv_nilCheck rfl (hF.t rfl)) fun a hF => ?_
      refine wg hF rfl rfl rfl (gv_field (r := 0) rfl u53 rfl rfl z50 (by decide) (hF.t rfl)) fun a hF => ?_
      refine wg hF rfl rfl rfl (gv_field (r := 5) rfl u50 rfl rfl z3 (by decide) (hF.t rfl)) fun a hF => ?_
      refine wpList_stp (stp_storeAt (5) hF (wanted_none rfl) rfl rfl z3 (hF.t rfl) (by omega) (hF.t rfl) rfl hS (k := 2) rfl (by simp) fun w hS => ?_)
      refine wN ?_
      refine tN (hKq41 _ _ ?_)
      refine wK fun Kq42 hKq42 => ?_
      refine wR ?_
      refine wg hF rfl rfl rfl (gv_move rfl (hF.t rfl)) fun a hF => ?_
      refine wg hF rfl rfl rfl (gv_move rfl (hF.t rfl)) fun a hF => ?_
      refine wg hF rfl rfl rfl (gv_len rfl u22 (hF.t rfl)) fun a hF => ?_
      refine wg hF rfl rfl rfl (gv_move rfl (hF.t rfl)) fun a hF => ?_
      refine wg hF rfl rfl rfl (gv_nsub rfl (hF.t rfl) (hF.t rfl) (by omega) (by omega)) fun a hF => ?_
      refine wg hF rfl rfl rfl (gv_slice2 (l := 5) rfl u22 z5 (hF.t rfl) rfl (hF.t rfl) (by omega) (by omega)) fun a hF => ?_
      refine wg hF rfl rfl rfl (gv_assign rfl (hF.t rfl)) fun a hF => ?_
      refine wg hF rfl rfl rfl (gv_assign rfl (ev_const _ _)) fun a hF => ?_
      refine wN ?_
      refine tN (hKq42 _ _ ?_)
      refine wp_ret ?_
      refine ret2 (fn := Tryd.f58) (t := 2) (u := 3) hF rfl rfl rfl ?_
      have hv := (own_rd (w0 := w00) (T := [⟨true, some p, blk 5 (P.map vB ++ pp)⟩]) (ob := some p) (l := P) List.mem_cons_self (fun h => by cases h) rfl pc).cut3 (l := 5) (h := P.length - (P.getD 4 0).toNat) (mx := P.length + pp.length) (by omega) (by omega) (by omega) (Nat.le_refl _)
      rw [← List.map_take, ← List.map_drop] at hv
      replace hS := hS.move (k := 2) rfl
      replace hS := hS.move (k := 3) rfl
      replace hS := hS.move (k := 3) rfl
      replace hS := hS.move (k := 3) rfl
      simp only [List.set_cons_zero, List.set_cons_succ, List.eraseIdx_cons_succ, List.eraseIdx_cons_zero] at hS
      replace hS := (hS.drop rfl).drop rfl
      rw [hst, step2, if_neg (by show ¬ (((u32A hl 4).toNat < 5 ∨ 2348 < (u32A hl 4).toNat) ∨ ¬ ((u32A hl 4).toNat + 4) % 16 = 0); omega), if_neg (by show ¬ B1.length < (u32A hl 4).toNat + 4 - 16 + 32; omega)]
      show NextP _ _ _ _ _ _ _ _ (step3 ⟨some (kl, il, ml), advQ (some (kl, il, ml)) at1 ((u32A hl 4).toNat + 4 - 16), sq, n, B1, some hl, false⟩ (hl ++ turnQ (some (kl, il, ml)) at1 (B1.take ((u32A hl 4).toNat + 4 - 16))) ((u32A hl 4).toNat + 4 - 16)) _ _
      rw [← hN]
      show NextP _ _ _ _ _ _ _ _ (step3 ⟨some (kl, il, ml), (at1 + (N + 4 - 16)), sq, n, B1, some hl, false⟩ (hl ++ turned kl il at1 (B1.take (N + 4 - 16))) (N + 4 - 16)) _ _
      rw [← hP, step3]
      rw [if_neg (by show ¬ (codeF (UInt32.ofNat sq) ml P ≠ (B1.take ((N + 4 - 16) + 32)).drop (N + 4 - 16)); exact h148), step4, if_neg (by omega)]
      exact NextP.mk' hX hX0 hYn (nw_cons rfl nw_nil) (stB1 hS) (by show SRd _ _ _ ((B1.drop ((N + 4 - 16) + 32)).map vB); rw [List.map_drop]; exact (hB10.cutLo (lo := (N + 4 - 16) + 32) (by omega)).mono (fun e he => List.mem_append_left _ he)) rfl (hv.mono (fun e he => List.mem_append_right _ he))
end Go.Proofs.YtfhalnobaeogkaaDoor
set_option linter.unusedVariables false
set_option linter.unusedSimpArgs false
namespace Go.Proofs.YtfhalnobaeogkaaDoor
open Go Go.RowKit Go.Fw
structure SpecQ (s : QS) (Q : (List UInt8 × Nat) × QS) : Prop where
 key : Q.2.key = s.key
 len : Q.2.B.length ≤ s.B.length
 at_ : Q.2.dead = false → Q.2.at_ + Q.2.B.length ≤ s.at_ + s.B.length
 ok : Q.1.2 = 0 → Q.2.sq = s.sq + 1 ∧ Q.2.n = s.n + 1 ∧ Q.2.dead = false ∧ Q.2.hd = none
 no : Q.1.2 ≠ 0 → Q.2.sq = s.sq ∧ Q.2.n = s.n
 wait : Q.1.2 = 4 → Q.2.dead = false
 bad : Q.1.2 ≠ 0 → Q.1.2 ≠ 4 → Q.2.dead = true
theorem step4_spec {s t : QS} (P : List UInt8) (hk : t.key = s.key) (hl : t.B.length ≤ s.B.length) (ha : t.at_ + t.B.length ≤ s.at_ + s.B.length) (hs : t.sq = s.sq) (hn : t.n = s.n) (hd : t.dead = false) (hh : t.hd = none) : SpecQ s (step4 t P) := by
 unfold step4
 split
 ·
  exact ⟨hk, hl, (fun h => by cases h), (fun h => absurd h (by show ¬ (3 : Nat) = 0; decide)), fun _ => ⟨hs, hn⟩, (fun h => absurd h (by show ¬ (3 : Nat) = 4; decide)), fun _ _ => rfl⟩
 ·
  exact ⟨hk, hl, fun _ => ha, fun _ => ⟨by show t.sq + 1 = _; rw [hs], by show t.n + 1 = _; rw [hn], hd, hh⟩, (fun h => absurd rfl h), (fun h => absurd h (by show ¬ (0 : Nat) = 4; decide)), fun h => absurd rfl h⟩
theorem step3_spec {s t : QS} (P : List UInt8) (rest : Nat) (hk : t.key = s.key) (hB : t.B.length ≤ s.B.length) (ha : t.at_ + (t.B.length - (rest + tailQ t.key)) ≤ s.at_ + s.B.length) (hs : t.sq = s.sq) (hn : t.n = s.n) (hd : t.dead = false) : SpecQ s (step3 t P rest) := by
 unfold step3
 split
 ·
  exact ⟨hk, hB, (fun h => by cases h), (fun h => absurd h (by show ¬ (5 : Nat) = 0; decide)), fun _ => ⟨hs, hn⟩, (fun h => absurd h (by show ¬ (5 : Nat) = 4; decide)), fun _ _ => rfl⟩
 ·
  exact step4_spec P hk (by show (t.B.drop _).length ≤ _; rw [List.length_drop]; omega) (by show t.at_ + (t.B.drop _).length ≤ _; rw [List.length_drop]; exact ha) hs hn hd rfl
theorem adv_le (k : Option (List UInt8 × List UInt8 × List UInt8)) (a m : Nat) : advQ k a m ≤ a + m := by
 cases k with
 | none => exact Nat.le_add_right _ _
 | some k => exact Nat.le_refl _
theorem step2_spec {s t : QS} (hl : List UInt8) (hk : t.key = s.key) (hB : t.B.length ≤ s.B.length) (ha : t.at_ + t.B.length ≤ s.at_ + s.B.length) (hs : t.sq = s.sq) (hn : t.n = s.n) (hd : t.dead = false) : SpecQ s (step2 t hl) := by
 unfold step2
 split
 ·
  exact ⟨hk, hB, (fun h => by cases h), (fun h => absurd h (by show ¬ (2 : Nat) = 0; decide)), fun _ => ⟨hs, hn⟩, (fun h => absurd h (by show ¬ (2 : Nat) = 4; decide)), fun _ _ => rfl⟩
 ·
  split
  ·
   exact ⟨hk, hB, fun _ => ha, (fun h => absurd h (by show ¬ (4 : Nat) = 0; decide)), fun _ => ⟨hs, hn⟩, fun _ => hd, (fun _ h => absurd rfl h)⟩
  ·
   refine step3_spec _ _ hk hB ?_ hs hn hd
   have := adv_le t.key t.at_ ((u32A hl 4).toNat + 4 - unitQ t.key)
   show advQ t.key t.at_ ((u32A hl 4).toNat + 4 - unitQ t.key) + (t.B.length - _) ≤ _
   omega
theorem nextQ_spec (s : QS) : SpecQ s (nextQ s) := by
 unfold nextQ
 split
 ·
  rename_i h
  exact ⟨rfl, Nat.le_refl _, (fun h2 => by rw [h] at h2; cases h2), (fun h => absurd h (by show ¬ (9 : Nat) = 0; decide)), fun _ => ⟨rfl, rfl⟩, (fun h => absurd h (by show ¬ (9 : Nat) = 4; decide)), fun _ _ => h⟩
 ·
  rename_i h
  have hd : s.dead = false := by simpa using h
  split
  ·
   exact step2_spec _ rfl (Nat.le_refl _) (Nat.le_refl _) rfl rfl hd
  ·
   split
   ·
    exact ⟨rfl, Nat.le_refl _, fun _ => Nat.le_refl _, (fun h => absurd h (by show ¬ (4 : Nat) = 0; decide)), fun _ => ⟨rfl, rfl⟩, fun _ => hd, (fun _ h => absurd rfl h)⟩
   ·
    refine step2_spec _ rfl (by show (s.B.drop _).length ≤ _; rw [List.length_drop]; omega) ?_ rfl rfl hd
    have := adv_le s.key s.at_ (unitQ s.key)
    show advQ s.key s.at_ (unitQ s.key) + (s.B.drop _).length ≤ _
    rw [List.length_drop]
    omega
theorem step4_wait (t : QS) (P : List UInt8) : (step4 t P).1.2 ≠ 4 := by unfold step4; split <;> (intro h; cases h)
theorem step3_wait (t : QS) (P : List UInt8) (r : Nat) : (step3 t P r).1.2 ≠ 4 := by
 unfold step3; split
 ·
  intro h; cases h
 ·
  exact step4_wait _ _
theorem step2_wait {t : QS} {hl : List UInt8} (h : (step2 t hl).1.2 = 4) : (step2 t hl).2 = { t with hd := some hl } := by
 unfold step2 at h ⊢
 split at h
 ·
  cases h
 ·
  rename_i h1
  rw [if_neg h1]
  split at h
  ·
   rename_i h2; rw [if_pos h2]
  ·
   exact absurd h (step3_wait _ _ _)
theorem nextQ_wait {s : QS} (hd : s.dead = false) (h : (nextQ s).1.2 = 4) : ((s.hd.isSome = true ∨ s.B.length < unitQ s.key) → (nextQ s).2 = s) ∧ (s.hd = none → unitQ s.key ≤ s.B.length → (nextQ s).2 = { s with at_ := advQ s.key s.at_ (unitQ s.key), B := s.B.drop (unitQ s.key), hd := some (turnQ s.key s.at_ (s.B.take (unitQ s.key))) }) := by
 unfold nextQ at h ⊢
 rw [if_neg (by rw [hd]; exact Bool.false_ne_true)] at h ⊢
 obtain ⟨key, at_, sq, n, B, ho, dead⟩ := s
 cases ho with
 | some hl =>
  refine ⟨fun _ => ?_, fun h => by cases h⟩
  exact step2_wait h
 | none =>
  simp only at h ⊢
  split at h
  ·
   rename_i h1
   rw [if_pos h1]
   exact ⟨fun _ => rfl, fun _ h2 => absurd h1 (by omega)⟩
  ·
   rename_i h1
   rw [if_neg h1]
   refine ⟨fun h2 => absurd (h2.resolve_left (by simp)) h1, fun _ _ => ?_⟩
   exact step2_wait h
end Go.Proofs.YtfhalnobaeogkaaDoor
set_option linter.unusedVariables false
set_option linter.unusedSimpArgs false
namespace Go.Proofs.YtfhalnobaeogkaaDoor
open Go Go.RowKit Go.Fw
structure RdF (w00 : World) (L : List Ent) (q : QS) (kv iv mv bv hv : Value) : Prop where
 key : match q.key with
  | none => ∃ kc, kv = .slice none 0 kc
  | some k => ∃ kb ko kc, kv = .slice (some ⟨kb, ko, none⟩) 16 kc ∧ SRd w00 L kv (k.1.map vB) ∧ SRd w00 L iv (k.2.1.map vB) ∧ SRd w00 L mv (k.2.2.map vB) ∧ k.1.length = 16 ∧ k.2.1.length = 16 ∧ k.2.2.length = 32
 b : SRd w00 L bv (q.B.map vB)
 h : ∃ u, 0 < u ∧ (q.dead = false → u = unitQ q.key) ∧ HdV w00 L hv u q.hd
theorem unitQ_pos (k : Option (List UInt8 × List UInt8 × List UInt8)) : 0 < unitQ k := by unfold unitQ; split <;> decide
theorem RdF.mono {w00 : World} {L L' : List Ent} {q : QS} {kv iv mv bv hv : Value} (h : RdF w00 L q kv iv mv bv hv) (hs : ∀ e ∈ L, e ∈ L') : RdF w00 L' q kv iv mv bv hv := by
 obtain ⟨h1, h2, u, hu, hd, h3⟩ := h
 refine ⟨?_, h2.mono hs, u, hu, hd, h3.mono hs⟩
 revert h1
 cases q.key with
 | none => exact id
 | some k => exact fun ⟨kb, ko, kc, a1, a2, a3, a4, a5⟩ => ⟨kb, ko, kc, a1, a2.mono hs, a3.mono hs, a4.mono hs, a5⟩
theorem rnext_g {w00 w : World} {r : Nat} {q : QS} {L T : List Ent} {kv iv mv bv hv : Value} (h0 : ∀ e ∈ L, e ∈ T) (hT : ∀ e ∈ T, e.nw = true) (hF : RdF w00 L q kv iv mv bv hv) (hS : St w00 w (rdE r kv iv mv q.at_ q.sq q.n bv hv q.dead :: T)) (hbl : q.dead = false → q.B.length ≤ 100000 ∧ q.at_ ≤ 1000000000) (hsq : q.sq < 4294967295) (hn : q.n ≤ 4611686018427387904) :
  Calls Tryd.prog 58 #[.pointer (some ⟨r, 0, none⟩)] w fun e w' => ∃ v Y bv' hv', e = .returned (.tuple #[v, vI (nextQ q).1.2]) ∧ (∀ x ∈ Y, x.nw = true) ∧ St w00 w' (rdE r kv iv mv (nextQ q).2.at_ (nextQ q).2.sq (nextQ q).2.n bv' hv' (nextQ q).2.dead :: (T ++ Y)) ∧ RdF w00 (L ++ Y) (nextQ q).2 kv iv mv bv' hv' ∧ SRd w00 (L ++ Y) v ((nextQ q).1.1.map vB) := by
 have hkey := (nextQ_spec q).key
 have fin : ∀ {e : Ending} {w' : World}, NextP w00 L T r kv iv mv (unitQ q.key) (nextQ q) e w' → ∃ v Y bv' hv', e = .returned (.tuple #[v, vI (nextQ q).1.2]) ∧ (∀ x ∈ Y, x.nw = true) ∧ St w00 w' (rdE r kv iv mv (nextQ q).2.at_ (nextQ q).2.sq (nextQ q).2.n bv' hv' (nextQ q).2.dead :: (T ++ Y)) ∧ RdF w00 (L ++ Y) (nextQ q).2 kv iv mv bv' hv' ∧ SRd w00 (L ++ Y) v ((nextQ q).1.1.map vB) := by
  intro e w' h
  obtain ⟨v, Y, bv', hv', he, hY, hS', h1, h2, h3⟩ := h.ex
  refine ⟨v, Y, bv', hv', he, hY, hS', ⟨?_, h1, _, unitQ_pos q.key, fun _ => by rw [hkey], h2⟩, h3⟩
  rw [hkey]
  exact (hF.mono (fun e he => List.mem_append_left Y he)).key
 cases hd : q.dead with
 | true =>
  rw [hd] at hS
  have e1 : nextQ q = (([], 9), q) := by rw [nextQ, if_pos hd]
  refine (rnext_dead (hS.cell (k := 0) (i := 8) rfl rfl)).mono fun e w' ⟨he, hx⟩ => ?_
  rw [e1, hd]
  refine ⟨_, [], bv, hv, he, (fun x hx => by cases hx), ?_, ?_, SRd.nil⟩
  ·
   rw [List.append_nil]; exact hS.ext hx
  ·
   rw [List.append_nil]; exact hF
 | false =>
  obtain ⟨hb1, ha1⟩ := hbl hd
  obtain ⟨key, at_, sq, n, B, ho, dead⟩ := q
  simp only at hd
  subst hd
  obtain ⟨f1, f2, u, _, hu, f3⟩ := hF
  obtain rfl := hu rfl
  cases key with
  | none =>
   obtain ⟨kc, rfl⟩ := f1
   exact (rnext_nil h0 hT hS f2 f3 hb1 ha1 hsq hn).mono fun e w' h => fin h
  | some k =>
   obtain ⟨kl, il, ml⟩ := k
   obtain ⟨kb, ko, kc, rfl, a2, a3, a4, a5, a6, a7⟩ := f1
   exact (rnext_key h0 hT hS f2 f3 hb1 ha1 hsq hn a2 a3 a4 a5 a6 a7).mono fun e w' h => fin h
end Go.Proofs.YtfhalnobaeogkaaDoor
set_option linter.unusedVariables false
set_option linter.unusedSimpArgs false
namespace Go.Proofs.YtfhalnobaeogkaaDoor
open Go Go.RowKit Go.Fw
theorem Tryd.ok50 : CallOk Tryd.prog 50 := ⟨_, Tryd.func50, by kernel_rfl, by kernel_rfl⟩
def CutOf (u : Nat) (l : List UInt8) (ho : Option (List UInt8)) (bv hv bv' hv' : Value) : Prop := ((ho.isSome = true ∨ l.length < u) ∧ bv' = bv ∧ hv' = hv) ∨ (ho = none ∧ u ≤ l.length ∧ ∃ A c, bv = .slice A l.length c ∧ u ≤ c ∧ bv' = cutV A l.length c u ∧ hv' = .slice A u u)
abbrev rdrE (r : Nat) (seq : UInt32) (st mac : Value) (n : Nat) (bv hv : Value) (bad : Bool) : Ent := ⟨true, some r, rdr seq st mac n bv hv bad⟩
structure PNext0 (w00 : World) (T : List Ent) (r : Nat) (seq : UInt32) (mac : Value) (n : Nat) (bl : List UInt8) (ho : Option (List UInt8)) (bv hv : Value) (Q : (List UInt8 × Nat) × QS) (e : Ending) (w' : World) : Prop where
  ex : ∃ v, e = .returned (.tuple #[v, vI Q.1.2]) ∧ Rd w' v (Q.1.1.map vB) ∧
    ((Q.1.2 = 4 ∧ v = .slice none 0 0 ∧ Q.1.1 = [] ∧ Q.2.dead = false ∧ ∃ bv' hv', CutOf 8 bl ho bv hv bv' hv' ∧ SRd w00 T bv' (Q.2.B.map vB) ∧ HdV w00 T hv' 8 Q.2.hd ∧ St w00 w' (rdrE r seq (.pointer none) mac n bv' hv' false :: T)) ∨
     (Q.2.dead = true ∧ v = .slice none 0 0 ∧ Q.1.1 = [] ∧ Q.1.2 ≠ 0 ∧ Q.1.2 ≠ 4 ∧ ∃ Y, (∀ x ∈ Y, x.nw = true) ∧ St w00 w' (rdrE r seq (.pointer none) mac n (.slice none 0 0) (.slice none 0 0) true :: (T ++ Y))) ∨
     (Q.1.2 = 0 ∧ Q.2.dead = false ∧ Q.2.hd = none ∧ ∃ g gp Y, SRd w00 Y v (Q.1.1.map vB) ∧ (g = none → Q.2.B = [] ∧ gp = []) ∧ Q.2.B.length + gp.length ≤ 9223372036854775807 ∧ (∀ x ∈ Y, x.nw = true) ∧ St w00 w' (rdrE r (seq + 1) (.pointer none) mac (n + 1) (ownV g Q.2.B.length (Q.2.B.length + gp.length)) (.slice none 0 0) false :: rowE g Q.2.B gp :: (T ++ Y))))
theorem step2_nil {at_ sq n : Nat} {B hl : List UInt8} (h : ¬ (((u32A hl 4).toNat < 5 ∨ 2348 < (u32A hl 4).toNat) ∨ ¬ ((u32A hl 4).toNat + 4) % 8 = 0)) (h2 : ¬ B.length < (u32A hl 4).toNat + 4 - 8) {N : Nat} (hN : N = (u32A hl 4).toNat) :
  step2 ⟨none, at_, sq, n, B, none, false⟩ hl = step4 ⟨none, at_, sq, n, B.drop (N + 4 - 8), none, false⟩ (hl ++ B.take (N + 4 - 8)) := by
 subst hN
 rw [step2, if_neg (by exact h), if_neg (by show ¬ B.length < (u32A hl 4).toNat + 4 - 8 + 0; omega)]
 show step3 ⟨none, at_, sq, n, B, some hl, false⟩ (hl ++ B.take ((u32A hl 4).toNat + 4 - 8)) ((u32A hl 4).toNat + 4 - 8) = _
 rw [step3, if_neg (by show ¬ (([] : List UInt8) ≠ (B.take ((u32A hl 4).toNat + 4 - 8 + 0)).drop ((u32A hl 4).toNat + 4 - 8)); rw [Nat.add_zero, List.drop_of_length_le (by rw [List.length_take]; omega)]; exact fun h => h rfl)]
 rfl
theorem fail_ok {w00 w : World} {T : List Ent} {r n c : Nat} {seq : UInt32} {st mac bv hv : Value} {bad : Bool} (hS : St w00 w (rdrE r seq st mac n bv hv bad :: T)) :
  Calls Tryd.prog 50 #[.pointer (some ⟨r, 0, none⟩), vI c] w fun e w' => e = .returned (.tuple #[.slice none 0 0, vI c]) ∧ St w00 w' (rdrE r seq st mac n (.slice none 0 0) (.slice none 0 0) true :: T) := by
 refine calls_start 16 Tryd.func50 rfl Tryd.ntmps50 rfl fun a hF => ?_
 refine wK fun Kq1 hKq1 => ?_
 refine wR ?_
 refine wg hF rfl rfl rfl (gv_assign rfl (ev_const _ _)) fun a hF => ?_
 refine wg hF rfl rfl rfl (gv_assign rfl (ev_const _ _)) fun a hF => ?_
 refine wN ?_
 refine tN (hKq1 _ _ ?_)
 refine wK fun Kq2 hKq2 => ?_
 refine wR ?_
 refine wg hF rfl rfl rfl (gv_move rfl (hF.t rfl)) fun a hF => ?_
 refine wg hF rfl rfl rfl (gv_move rfl (hF.t rfl)) fun a hF => ?_
 refine wg hF rfl rfl rfl (gv_move rfl (hF.t rfl)) fun a hF => ?_
 refine wg hF rfl rfl rfl (gv_nilCheck rfl (hF.t rfl)) fun a hF => ?_
 refine wg hF rfl rfl rfl (gv_field (r := 6) rfl u47 rfl rfl z4 (by decide) (hF.t rfl)) fun a hF => ?_
 refine wpList_stp (stp_storeAt (6) hF (wanted_none rfl) rfl rfl z4 (hF.t rfl) (by omega) (ev_const _ _) rfl hS (k := 0) rfl (by simp) fun w hS => ?_)
 refine wg hF rfl rfl rfl (gv_nilCheck rfl (hF.t rfl)) fun a hF => ?_
 refine wg hF rfl rfl rfl (gv_field (r := 4) rfl u47 rfl rfl z22 (by decide) (hF.t rfl)) fun a hF => ?_
 refine wpList_stp (stp_storeAt (4) hF (wanted_none rfl) rfl rfl z22 (hF.t rfl) (by omega) (ev_const _ _) rfl hS (k := 0) rfl (by simp) fun w hS => ?_)
 refine wg hF rfl rfl rfl (gv_nilCheck rfl (hF.t rfl)) fun a hF => ?_
 refine wg hF rfl rfl rfl (gv_field (r := 5) rfl u47 rfl rfl z22 (by decide) (hF.t rfl)) fun a hF => ?_
 refine wpList_stp (stp_storeAt (5) hF (wanted_none rfl) rfl rfl z22 (hF.t rfl) (by omega) (ev_const _ _) rfl hS (k := 0) rfl (by simp) fun w hS => ?_)
 refine wN ?_
 refine tN (hKq2 _ _ ?_)
 refine wK fun Kq3 hKq3 => ?_
 refine wR ?_
 refine wg hF rfl rfl rfl (gv_move rfl (hF.t rfl)) fun a hF => ?_
 refine wg hF rfl rfl rfl (gv_assign rfl (ev_const _ _)) fun a hF => ?_
 refine wg hF rfl rfl rfl (gv_assign rfl (hF.t rfl)) fun a hF => ?_
 refine wN ?_
 refine tN (hKq3 _ _ ?_)
 refine wp_ret ?_
 refine ret2 (fn := Tryd.f50) (t := 4) (u := 5) hF rfl rfl rfl ?_
 exact ⟨rfl, hS⟩
set_option maxHeartbeats 1000000 in
theorem pnext0_ok {w00 w : World} {T : List Ent} {r n at_ sq : Nat} {seq : UInt32} {mac bv hv : Value} {bl : List UInt8} {ho : Option (List UInt8)} (hT : ∀ e ∈ T, e.nw = true) (hS : St w00 w (rdrE r seq (.pointer none) mac n bv hv false :: T)) (hb : SRd w00 T bv (bl.map vB)) (hh : HdV w00 T hv 8 ho) (hh2 : ∀ hl, ho = some hl → ∃ b o, hv = .slice (some ⟨b, o, none⟩) 8 8) (hbl : bl.length ≤ 100000) (hn : n ≤ 4611686018427387904) :
  Calls Tryd.prog 17 #[.pointer (some ⟨r, 0, none⟩)] w (PNext0 w00 T r seq mac n bl ho bv hv (nextQ ⟨none, at_, sq, n, bl, ho, false⟩)) := by
 obtain ⟨A, c, rfl, hc, _, hcl⟩ := (hb w _ hS (nw_cons rfl hT) (fun e he => List.mem_cons_of_mem _ (he))).isB
 refine calls_start 225 Tryd.func17 rfl Tryd.ntmps17 rfl fun a hF => ?_
 refine wK fun Kq1 hKq1 => ?_
 refine wR ?_
 refine wg hF rfl rfl rfl (gv_assign rfl (ev_const _ _)) fun a hF => ?_
 refine wg hF rfl rfl rfl (gv_assign rfl (ev_const _ _)) fun a hF => ?_
 refine wN ?_
 refine tN (hKq1 _ _ ?_)
 refine wK fun Kq2 hKq2 => ?_
 refine wK fun Kq3 hKq3 => ?_
 refine wR ?_
 refine wg hF rfl rfl rfl (gv_move rfl (hF.t rfl)) fun a hF => ?_
 refine wg hF rfl rfl rfl (gv_eqlNil rfl u25 (hF.t rfl) (ev_const _ _)) fun a hF => ?_
 refine wg hF rfl rfl rfl (gv_move rfl (hF.t rfl)) fun a hF => ?_
 refine wpList_stp (stp_gv hF (wanted_of hF rfl rfl (rfl)) rfl rfl (gv_move rfl (hF.t rfl)) fun a hF => ?_)
 refine wpList_stp (stp_gv hF (wanted_of hF rfl rfl (rfl)) rfl rfl (gv_nilCheck rfl (hF.t rfl)) fun a hF => ?_)
 refine wpList_stp (stp_gv hF (wanted_of hF rfl rfl (rfl)) rfl rfl (gv_field (r := 6) rfl u47 rfl rfl z4 (by decide) (hF.t rfl)) fun a hF => ?_)
 refine wpList_stp (stp_gv hF (wanted_of hF rfl rfl (rfl)) rfl rfl (gv_load rfl u4 rfl (hF.t rfl) (cell_ix (j := 6) (hS.cell (k := 0) rfl (rfl)) (by omega))) fun a hF => ?_)
 refine wg hF rfl rfl rfl (gv_pickF rfl (hF.t rfl) (hF.t rfl)) fun a hF => ?_
 refine wN ?_
 refine tN (hKq3 _ _ ?_)
 refine wp_cond_false (hF.t rfl) ?_
 refine wp_skip ?_
 refine tN (hKq2 _ _ ?_)
 refine wK fun Kq4 hKq4 => ?_
 refine wR ?_
 refine wg hF rfl rfl rfl (gv_move rfl (hF.t rfl)) fun a hF => ?_
 refine wg hF rfl rfl rfl (gv_nilCheck rfl (hF.t rfl)) fun a hF => ?_
 refine wg hF rfl rfl rfl (gv_field (r := 0) rfl u47 rfl rfl z35 (by decide) (hF.t rfl)) fun a hF => ?_
 refine wpList_stp (stp_call hF (wanted_none rfl) rfl rfl Tryd.ok43 rfl (Evs.cons (hF.t rfl) Evs.nil) (blk0_ok (hS.cell (k := 0) (i := 1) (v := .pointer none) rfl rfl)) fun e w h => ?_)
 obtain ⟨rfl, hx⟩ := h
 refine ⟨_, rfl, fun a hF => ?_⟩
 replace hS := hS.ext hx
 clear hx
 refine wg hF rfl rfl rfl (gv_assign rfl (hF.t rfl)) fun a hF => ?_
 refine wN ?_
 refine tN (hKq4 _ _ ?_)
 refine wp_cut (fun a w => ∃ (hl B1 : List UInt8) (b0 o0 : Nat) (A1 : Option Addr) (c1 : Nat), hl.length = 8 ∧ SRd w00 T (.slice (some ⟨b0, o0, none⟩) 8 8) (hl.map vB) ∧ SRd w00 T (.slice A1 B1.length c1) (B1.map vB) ∧ B1.length ≤ 100000 ∧ CutOf 8 bl ho (.slice A bl.length c) hv (.slice A1 B1.length c1) (.slice (some ⟨b0, o0, none⟩) 8 8) ∧ nextQ ⟨none, at_, sq, n, bl, ho, false⟩ = step2 ⟨none, at_, sq, n, B1, none, false⟩ hl ∧ Fr 225 a [(0, .pointer (some ⟨r, 0, none⟩)), (4, vI 8)] ∧ St w00 w (rdrE r seq (.pointer none) mac n (.slice A1 B1.length c1) (.slice (some ⟨b0, o0, none⟩) 8 8) false :: T)) ?_ ?_
 ·
  rcases ho with _ | hl
  ·
   obtain rfl : hv = .slice none 0 0 := hh
   refine wK fun Kq5 hKq5 => ?_
   refine wR ?_
   refine wg hF rfl rfl rfl (gv_move rfl (hF.t rfl)) fun a hF => ?_
   refine wg hF rfl rfl rfl (gv_nilCheck rfl (hF.t rfl)) fun a hF => ?_
   refine wg hF rfl rfl rfl (gv_field (r := 5) rfl u47 rfl rfl z22 (by decide) (hF.t rfl)) fun a hF => ?_
   refine wg hF rfl rfl rfl (gv_load rfl u22 rfl (hF.t rfl) (cell_ix (j := 5) (hS.cell (k := 0) rfl (rfl)) (by omega))) fun a hF => ?_
   refine wg hF rfl rfl rfl (gv_eqlNilS rfl u22 (hF.t rfl) (ev_const _ _)) fun a hF => ?_
   refine wN ?_
   refine tN (hKq5 _ _ ?_)
   refine wp_cond_true (hF.t rfl) ?_
   refine wK fun Kq6 hKq6 => ?_
   refine wK fun Kq7 hKq7 => ?_
   refine wR ?_
   refine wg hF rfl rfl rfl (gv_move rfl (hF.t rfl)) fun a hF => ?_
   refine wg hF rfl rfl rfl (gv_nilCheck rfl (hF.t rfl)) fun a hF => ?_
   refine wg hF rfl rfl rfl (gv_field (r := 4) rfl u47 rfl rfl z22 (by decide) (hF.t rfl)) fun a hF => ?_
   refine wg hF rfl rfl rfl (gv_load rfl u22 rfl (hF.t rfl) (cell_ix (j := 4) (hS.cell (k := 0) rfl (rfl)) (by omega))) fun a hF => ?_
   refine wg hF rfl rfl rfl (gv_len rfl u22 (hF.t rfl)) fun a hF => ?_
   refine wg hF rfl rfl rfl (gv_move rfl (hF.t rfl)) fun a hF => ?_
   refine wg hF rfl rfl rfl (gv_lss rfl (hF.t rfl) (hF.t rfl)) fun a hF => ?_
   refine wN ?_
   refine tN (hKq7 _ _ ?_)
   refine cond_dec (hF.t rfl) (fun h32 => ?_) (fun h32 => ?_)
   ·
    refine wK fun Kq8 hKq8 => ?_
    refine wR ?_
    refine wg hF rfl rfl rfl (gv_assign rfl (ev_const _ _)) fun a hF => ?_
    refine wg hF rfl rfl rfl (gv_assign rfl (ev_const _ _)) fun a hF => ?_
    refine wN ?_
    refine tN (hKq8 _ _ ?_)
    refine wp_ret ?_
    refine then_ret ?_
    refine then_ret ?_
    refine ret2 (fn := Tryd.f17) (t := 2) (u := 3) hF rfl rfl rfl ?_
    rw [nextQ, if_neg Bool.false_ne_true]
    show PNext0 _ _ _ _ _ _ _ _ _ _ (if bl.length < 8 then _ else _) _ _
    rw [if_pos (by omega)]
    exact ⟨_, rfl, Rd.nil w, .inl ⟨rfl, rfl, rfl, rfl, _, _, .inl ⟨.inr (by omega), rfl, rfl⟩, hb, rfl, hS⟩⟩
   ·
    refine wp_skip ?_
    refine tN (hKq6 _ _ ?_)
    refine wK fun Kq9 hKq9 => ?_
    refine wR ?_
    refine wg hF rfl rfl rfl (gv_move rfl (hF.t rfl)) fun a hF => ?_
    refine wg hF rfl rfl rfl (gv_move rfl (hF.t rfl)) fun a hF => ?_
    refine wg hF rfl rfl rfl (gv_nilCheck rfl (hF.t rfl)) fun a hF => ?_
    refine wg hF rfl rfl rfl (gv_field (r := 4) rfl u47 rfl rfl z22 (by decide) (hF.t rfl)) fun a hF => ?_
    refine wg hF rfl rfl rfl (gv_load rfl u22 rfl (hF.t rfl) (cell_ix (j := 4) (hS.cell (k := 0) rfl (rfl)) (by omega))) fun a hF => ?_
    refine wg hF rfl rfl rfl (gv_move rfl (hF.t rfl)) fun a hF => ?_
    refine wg hF rfl rfl rfl (gv_move rfl (hF.t rfl)) fun a hF => ?_
    refine wg hF rfl rfl rfl (gv_sliceHM rfl u22 z5 (hF.t rfl) (hF.t rfl) (hF.t rfl) (by omega) (by omega)) fun a hF => ?_
    refine wg hF rfl rfl rfl (gv_nilCheck rfl (hF.t rfl)) fun a hF => ?_
    refine wg hF rfl rfl rfl (gv_field (r := 5) rfl u47 rfl rfl z22 (by decide) (hF.t rfl)) fun a hF => ?_
    refine wpList_stp (stp_storeAt (5) hF (wanted_none rfl) rfl rfl z22 (hF.t rfl) (by omega) (hF.t rfl) rfl hS (k := 0) rfl (by simp) fun w hS => ?_)
    refine wN ?_
    refine tN (hKq9 _ _ ?_)
    refine wK fun Kq10 hKq10 => ?_
    refine wK fun Kq11 hKq11 => ?_
    refine wR ?_
    refine wg hF rfl rfl rfl (gv_move rfl (hF.t rfl)) fun a hF => ?_
    refine wg hF rfl rfl rfl (gv_nilCheck rfl (hF.t rfl)) fun a hF => ?_
    refine wg hF rfl rfl rfl (gv_field (r := 0) rfl u47 rfl rfl z35 (by decide) (hF.t rfl)) fun a hF => ?_
    refine wg hF rfl rfl rfl (gv_field (r := 1) rfl u35 rfl rfl z33 (by decide) (hF.t rfl)) fun a hF => ?_
    refine wg hF rfl rfl rfl (gv_load rfl u33 rfl (hF.t rfl) (cell_ix (j := 1) (hS.cell (k := 0) rfl (rfl)) (by omega))) fun a hF => ?_
    refine wg hF rfl rfl rfl (gv_neqNil rfl u33 (hF.t rfl) (ev_const _ _)) fun a hF => ?_
    refine wN ?_
    refine tN (hKq11 _ _ ?_)
    refine wp_cond_false (hF.t rfl) ?_
    refine wp_skip ?_
    refine tN (hKq10 _ _ ?_)
    refine wR ?_
    refine wg hF rfl rfl rfl (gv_move rfl (hF.t rfl)) fun a hF => ?_
    refine wg hF rfl rfl rfl (gv_move rfl (hF.t rfl)) fun a hF => ?_
    refine wg hF rfl rfl rfl (gv_nilCheck rfl (hF.t rfl)) fun a hF => ?_
    refine wg hF rfl rfl rfl (gv_field (r := 4) rfl u47 rfl rfl z22 (by decide) (hF.t rfl)) fun a hF => ?_
    refine wg hF rfl rfl rfl (gv_load rfl u22 rfl (hF.t rfl) (cell_ix (j := 4) (hS.cell (k := 0) rfl (rfl)) (by omega))) fun a hF => ?_
    refine wg hF rfl rfl rfl (gv_move rfl (hF.t rfl)) fun a hF => ?_
    refine wg hF rfl rfl rfl (gv_sliceLo (lo := 8) rfl u22 z5 (hF.t rfl) (hF.t rfl) (by omega)) fun a hF => ?_
    refine wg hF rfl rfl rfl (gv_nilCheck rfl (hF.t rfl)) fun a hF => ?_
    refine wg hF rfl rfl rfl (gv_field (r := 4) rfl u47 rfl rfl z22 (by decide) (hF.t rfl)) fun a hF => ?_
    refine wpList_stp (stp_storeAt (4) hF (wanted_none rfl) rfl rfl z22 (hF.t rfl) (by omega) (hF.t rfl) rfl hS (k := 0) rfl (by simp) fun w hS => ?_)
    refine wN ?_
    refine then_normal ?_
    obtain ⟨b0, o0, rfl, _⟩ := hcl (by omega)
    have hdl : (bl.drop 8).length = bl.length - 8 := List.length_drop
    exact ⟨bl.take 8, bl.drop 8, b0, o0, _, _, by rw [List.length_take]; omega, by rw [List.map_take]; exact hb.cutHM (by omega) (by omega) (by omega), by rw [hdl, List.map_drop]; exact hb.cutLo (lo := 8) (by omega), by omega, .inr ⟨rfl, by omega, _, _, rfl, by omega, by rw [hdl]; rfl, rfl⟩, by rw [nextQ, if_neg Bool.false_ne_true]; exact if_neg (by show ¬ bl.length < 8; omega), hF.sub ⟨rfl, rfl, trivial⟩, by rw [hdl]; exact hS⟩
  ·
   obtain ⟨b0, o0, rfl⟩ := hh2 hl rfl
   obtain ⟨hhl, hh⟩ := hh
   refine wK fun Kq12 hKq12 => ?_
   refine wR ?_
   refine wg hF rfl rfl rfl (gv_move rfl (hF.t rfl)) fun a hF => ?_
   refine wg hF rfl rfl rfl (gv_nilCheck rfl (hF.t rfl)) fun a hF => ?_
   refine wg hF rfl rfl rfl (gv_field (r := 5) rfl u47 rfl rfl z22 (by decide) (hF.t rfl)) fun a hF => ?_
   refine wg hF rfl rfl rfl (gv_load rfl u22 rfl (hF.t rfl) (cell_ix (j := 5) (hS.cell (k := 0) rfl (rfl)) (by omega))) fun a hF => ?_
   refine wg hF rfl rfl rfl (gv_eqlNilS rfl u22 (hF.t rfl) (ev_const _ _)) fun a hF => ?_
   refine wN ?_
   refine tN (hKq12 _ _ ?_)
   refine wp_cond_false (hF.t rfl) ?_
   refine wp_skip ?_
   refine then_normal ?_
   exact ⟨hl, bl, b0, o0, A, c, hhl, hh, hb, hbl, .inl ⟨.inl rfl, rfl, rfl⟩, rfl, hF.sub ⟨rfl, rfl, trivial⟩, hS⟩
 ·
  rintro a w ⟨hl, B1, b0, o0, A1, c1, hhl, hh, hB1, hB1l, hcut, hst, hF, hS⟩
  obtain ⟨N, hN⟩ : ∃ N, N = (u32A hl 4).toNat := ⟨_, rfl⟩
  have hNl := (u32A hl 4).toNat_lt
  have hc1 : B1.length ≤ c1 := by obtain ⟨_, _, h1, h2, _, _⟩ := (hB1 w _ hS (nw_cons rfl hT) (fun e he => List.mem_cons_of_mem _ (he))).isB; injection h1 with _ _ h3; omega
  refine wK fun Kq13 hKq13 => ?_
  refine wR ?_
  refine wg hF rfl rfl rfl (gv_move rfl (hF.t rfl)) fun a hF => ?_
  refine wg hF rfl rfl rfl (gv_nilCheck rfl (hF.t rfl)) fun a hF => ?_
  refine wg hF rfl rfl rfl (gv_field (r := 5) rfl u47 rfl rfl z22 (by decide) (hF.t rfl)) fun a hF => ?_
  refine wg hF rfl rfl rfl (gv_load rfl u22 rfl (hF.t rfl) (cell_ix (j := 5) (hS.cell (k := 0) rfl (rfl)) (by omega))) fun a hF => ?_
  refine wpList_stp (stp_call hF (wanted_none rfl) rfl rfl Tryd.ok48 rfl (Evs.cons (hF.t rfl) Evs.nil) from_ok fun e w h => ?_)
  obtain ⟨rr, rfl, hN2⟩ := h
  refine ⟨_, rfl, fun a hF => ?_⟩
  replace hS := hS.join hN2 (nw_cons rfl nw_nil)
  simp only [List.cons_append, List.nil_append] at hS
  clear hN2
  refine wpList_stp (stp_call hF (wanted_none rfl) rfl rfl Tryd.ok49 rfl (Evs.cons (hF.t rfl) Evs.nil) (ru32_ok (bl := hl) (c := 8) (nw_cons rfl hT) (by rw [hhl]; exact hS) (SRd.mono (T := T) (by rw [hhl]; exact hh) (fun e he => List.mem_cons_of_mem _ he)) (by omega) (by omega)) fun e w h => ?_)
  obtain ⟨rfl, hS⟩ := h
  refine ⟨_, rfl, fun a hF => ?_⟩
  replace hS := hS.drop rfl
  refine wg hF rfl rfl rfl (gv_conv_w_i rfl u32 u3 (hF.t rfl)) fun a hF => ?_
  rw [← hN] at hF
  refine wg hF rfl rfl rfl (gv_assign rfl (hF.t rfl)) fun a hF => ?_
  refine wN ?_
  refine tN (hKq13 _ _ ?_)
  refine wK fun Kq14 hKq14 => ?_
  refine wK fun Kq15 hKq15 => ?_
  refine wR ?_
  refine wg hF rfl rfl rfl (gv_move rfl (hF.t rfl)) fun a hF => ?_
  refine wg hF rfl rfl rfl (gv_lss rfl (hF.t rfl) (ev_const _ _)) fun a hF => ?_
  refine wg hF rfl rfl rfl (gv_move rfl (hF.t rfl)) fun a hF => ?_
  refine wpList_stp (stp_gvG' hF rfl rfl rfl rfl rfl (fun hg => gv_move rfl (hF.t rfl)) fun a hF => ?_)
  refine wpList_stp (stp_gvG' hF rfl rfl rfl rfl rfl (fun hg => gv_gtr rfl ((hF.t rfl).trans (if_neg hg)) (ev_const _ _)) fun a hF => ?_)
  refine wg hF rfl rfl rfl (gv_pickOr rfl (hF.t rfl) (ev_const _ _) (hF.t rfl)) fun a hF => ?_
  refine wg hF rfl rfl rfl (gv_move rfl (hF.t rfl)) fun a hF => ?_
  refine wpList_stp (stp_gvG' hF rfl rfl rfl rfl rfl (fun hg => gv_move rfl (hF.t rfl)) fun a hF => ?_)
  refine wpList_stp (stp_gvG' hF rfl rfl rfl rfl rfl (fun hg => gv_nadd (n := 4) rfl ((hF.t rfl).trans (if_neg hg)) rfl (by omega)) fun a hF => ?_)
  refine wpList_stp (stp_gvG' hF rfl rfl rfl rfl rfl (fun hg => gv_move rfl (hF.t rfl)) fun a hF => ?_)
  refine wpList_stp (stp_gvG' hF rfl rfl rfl rfl rfl (fun hg => gv_nrem (n := 8) rfl ((hF.t rfl).trans (if_neg hg)) ((hF.t rfl).trans (if_neg hg)) (by omega)) fun a hF => ?_)
  refine wpList_stp (stp_gvG' hF rfl rfl rfl rfl rfl (fun hg => gv_neq rfl ((hF.t rfl).trans (if_neg hg)) (ev_const _ _)) fun a hF => ?_)
  refine wg hF rfl rfl rfl (gv_pickOr rfl (hF.t rfl) (ev_const _ _) (hF.t rfl)) fun a hF => ?_
  refine wN ?_
  refine tN (hKq15 _ _ ?_)
  refine cond_dec (hF.t rfl) (fun h90 => ?_) (fun h90 => ?_)
  ·
   refine wK fun Kq16 hKq16 => ?_
   refine wR ?_
   refine wg hF rfl rfl rfl (gv_move rfl (hF.t rfl)) fun a hF => ?_
   refine wpList_stp (stp_call hF (wanted_none rfl) rfl rfl Tryd.ok50 rfl (Evs.cons (hF.t rfl) (Evs.cons (ev_const _ _) Evs.nil)) (fail_ok (c := 2) hS) fun e w h => ?_)
   obtain ⟨rfl, hS⟩ := h
   refine ⟨_, rfl, fun a hF => ?_⟩
   refine wg hF rfl rfl rfl (gv_extract rfl (hF.t rfl) rfl) fun a hF => ?_
   refine wg hF rfl rfl rfl (gv_extract rfl (hF.t rfl) rfl) fun a hF => ?_
   refine wg hF rfl rfl rfl (gv_assign rfl (hF.t rfl)) fun a hF => ?_
   refine wg hF rfl rfl rfl (gv_assign rfl (hF.t rfl)) fun a hF => ?_
   refine wN ?_
   refine tN (hKq16 _ _ ?_)
   refine wp_ret ?_
   refine then_ret ?_
   refine ret2 (fn := Tryd.f17) (t := 2) (u := 3) hF rfl rfl rfl ?_
   rw [hst, step2, if_pos (by show (((u32A hl 4).toNat < 5 ∨ 2348 < (u32A hl 4).toNat) ∨ ¬ ((u32A hl 4).toNat + 4) % 8 = 0); omega)]
   exact ⟨_, rfl, Rd.nil w, .inr (.inl ⟨rfl, rfl, rfl, (by show (2 : Nat) ≠ 0; decide), (by show (2 : Nat) ≠ 4; decide), [], (fun e he => by cases he), stB0 hS⟩)⟩
  ·
   refine wp_skip ?_
   refine tN (hKq14 _ _ ?_)
   refine wK fun Kq17 hKq17 => ?_
   refine wR ?_
   refine wg hF rfl rfl rfl (gv_move rfl (hF.t rfl)) fun a hF => ?_
   refine wg hF rfl rfl rfl (gv_nadd (n := 4) rfl (hF.t rfl) rfl (by omega)) fun a hF => ?_
   refine wg hF rfl rfl rfl (gv_move rfl (hF.t rfl)) fun a hF => ?_
   refine wg hF rfl rfl rfl (gv_nsub (n := 8) rfl (hF.t rfl) (hF.t rfl) (by omega) (by omega)) fun a hF => ?_
   refine wg hF rfl rfl rfl (gv_assign rfl (hF.t rfl)) fun a hF => ?_
   refine wN ?_
   refine tN (hKq17 _ _ ?_)
   refine wK fun Kq18 hKq18 => ?_
   refine wK fun Kq19 hKq19 => ?_
   refine wR ?_
   refine wg hF rfl rfl rfl (gv_move rfl (hF.t rfl)) fun a hF => ?_
   refine wg hF rfl rfl rfl (gv_nilCheck rfl (hF.t rfl)) fun a hF => ?_
   refine wg hF rfl rfl rfl (gv_field (r := 0) rfl u47 rfl rfl z35 (by decide) (hF.t rfl)) fun a hF => ?_
   refine wg hF rfl rfl rfl (gv_field (r := 1) rfl u35 rfl rfl z33 (by decide) (hF.t rfl)) fun a hF => ?_
   refine wg hF rfl rfl rfl (gv_load rfl u33 rfl (hF.t rfl) (cell_ix (j := 1) (hS.cell (k := 0) rfl (rfl)) (by omega))) fun a hF => ?_
   refine wg hF rfl rfl rfl (gv_neqNil rfl u33 (hF.t rfl) (ev_const _ _)) fun a hF => ?_
   refine wN ?_
   refine tN (hKq19 _ _ ?_)
   refine wp_cond_false (hF.t rfl) ?_
   refine wp_skip ?_
   refine tN (hKq18 _ _ ?_)
   refine wK fun Kq20 hKq20 => ?_
   refine wK fun Kq21 hKq21 => ?_
   refine wR ?_
   refine wg hF rfl rfl rfl (gv_move rfl (hF.t rfl)) fun a hF => ?_
   refine wg hF rfl rfl rfl (gv_nilCheck rfl (hF.t rfl)) fun a hF => ?_
   refine wg hF rfl rfl rfl (gv_field (r := 4) rfl u47 rfl rfl z22 (by decide) (hF.t rfl)) fun a hF => ?_
   refine wg hF rfl rfl rfl (gv_load rfl u22 rfl (hF.t rfl) (cell_ix (j := 4) (hS.cell (k := 0) rfl (rfl)) (by omega))) fun a hF => ?_
   refine wg hF rfl rfl rfl (gv_len rfl u22 (hF.t rfl)) fun a hF => ?_
   refine wg hF rfl rfl rfl (gv_move rfl (hF.t rfl)) fun a hF => ?_
   refine wg hF rfl rfl rfl (gv_lss rfl (hF.t rfl) (hF.t rfl)) fun a hF => ?_
   refine wN ?_
   refine tN (hKq21 _ _ ?_)
   refine cond_dec (hF.t rfl) (fun h113 => ?_) (fun h113 => ?_)
   ·
    refine wK fun Kq22 hKq22 => ?_
    refine wR ?_
    refine wg hF rfl rfl rfl (gv_assign rfl (ev_const _ _)) fun a hF => ?_
    refine wg hF rfl rfl rfl (gv_assign rfl (ev_const _ _)) fun a hF => ?_
    refine wN ?_
    refine tN (hKq22 _ _ ?_)
    refine wp_ret ?_
    refine then_ret ?_
    refine ret2 (fn := Tryd.f17) (t := 2) (u := 3) hF rfl rfl rfl ?_
    rw [hst, step2, if_neg (by show ¬ (((u32A hl 4).toNat < 5 ∨ 2348 < (u32A hl 4).toNat) ∨ ¬ ((u32A hl 4).toNat + 4) % 8 = 0); omega), if_pos (by show B1.length < (u32A hl 4).toNat + 4 - 8 + 0; omega)]
    exact ⟨_, rfl, Rd.nil w, .inl ⟨rfl, rfl, rfl, rfl, _, _, hcut, hB1, ⟨hhl, hh⟩, hS⟩⟩
   ·
    refine wp_skip ?_
    refine tN (hKq20 _ _ ?_)
    refine wK fun Kq23 hKq23 => ?_
    refine wR ?_
    refine wg hF rfl rfl rfl (gv_move rfl (hF.t rfl)) fun a hF => ?_
    refine wg hF rfl rfl rfl (gv_nilCheck rfl (hF.t rfl)) fun a hF => ?_
    refine wg hF rfl rfl rfl (gv_field (r := 5) rfl u47 rfl rfl z22 (by decide) (hF.t rfl)) fun a hF => ?_
    refine wg hF rfl rfl rfl (gv_load rfl u22 rfl (hF.t rfl) (cell_ix (j := 5) (hS.cell (k := 0) rfl (rfl)) (by omega))) fun a hF => ?_
    refine wg hF rfl rfl rfl (gv_assign rfl (hF.t rfl)) fun a hF => ?_
    refine wN ?_
    refine tN (hKq23 _ _ ?_)
    refine wK fun Kq24 hKq24 => ?_
    refine wK fun Kq25 hKq25 => ?_
    refine wR ?_
    refine wg hF rfl rfl rfl (gv_move rfl (hF.t rfl)) fun a hF => ?_
    refine wg hF rfl rfl rfl (gv_nilCheck rfl (hF.t rfl)) fun a hF => ?_
    refine wg hF rfl rfl rfl (gv_field (r := 0) rfl u47 rfl rfl z35 (by decide) (hF.t rfl)) fun a hF => ?_
    refine wg hF rfl rfl rfl (gv_field (r := 1) rfl u35 rfl rfl z33 (by decide) (hF.t rfl)) fun a hF => ?_
    refine wg hF rfl rfl rfl (gv_load rfl u33 rfl (hF.t rfl) (cell_ix (j := 1) (hS.cell (k := 0) rfl (rfl)) (by omega))) fun a hF => ?_
    refine wg hF rfl rfl rfl (gv_neqNil rfl u33 (hF.t rfl) (ev_const _ _)) fun a hF => ?_
    refine wN ?_
    refine tN (hKq25 _ _ ?_)
    refine wp_cond_false (hF.t rfl) ?_
    refine wR ?_
    refine wg hF rfl rfl rfl (gv_move rfl (hF.t rfl)) fun a hF => ?_
    refine wg hF rfl rfl rfl (gv_move rfl (hF.t rfl)) fun a hF => ?_
    refine wg hF rfl rfl rfl (gv_nilCheck rfl (hF.t rfl)) fun a hF => ?_
    refine wg hF rfl rfl rfl (gv_field (r := 4) rfl u47 rfl rfl z22 (by decide) (hF.t rfl)) fun a hF => ?_
    refine wg hF rfl rfl rfl (gv_load rfl u22 rfl (hF.t rfl) (cell_ix (j := 4) (hS.cell (k := 0) rfl (rfl)) (by omega))) fun a hF => ?_
    refine wg hF rfl rfl rfl (gv_move rfl (hF.t rfl)) fun a hF => ?_
    refine wg hF rfl rfl rfl (gv_sliceHi rfl u22 z5 (hF.t rfl) (hF.t rfl) (by omega)) fun a hF => ?_
    have hR1 := hh w _ hS (nw_cons rfl hT) (fun e he => List.mem_cons_of_mem _ (he))
    have hR2 : Rd w (.slice A1 (N + 4 - 8) c1) ((B1.take (N + 4 - 8)).map vB) := by
     rw [List.map_take]
     exact (hB1.cutHi (hi := N + 4 - 8) (by omega)) w _ hS (nw_cons rfl hT) (fun e he => List.mem_cons_of_mem _ (he))
    have hl2 : (B1.take (N + 4 - 8)).length = N + 4 - 8 := by rw [List.length_take]; omega
    refine wpList_stp (stp_appFull (l := hl) hF (wanted_none rfl) rfl rfl rfl u22 Tryd.ty5 rfl (by rw [hhl]; exact hF.t rfl) (hF.t rfl) hS (by rw [hhl]; exact hR1) (by omega) hR2 (by omega) (by omega) fun o op a w hF oc hS => ?_)
    obtain ⟨P, hP⟩ : ∃ P, P = hl ++ B1.take (N + 4 - 8) := ⟨_, rfl⟩
    have hPl : P.length = N + 4 := by rw [hP, List.length_append, hl2]; omega
    rw [← hP] at hF oc hS
    have hp4 := (P.getD 4 0).toNat_lt
    clear hR1 hR2
    refine wg hF rfl rfl rfl (gv_assign rfl (hF.t rfl)) fun a hF => ?_
    refine wN ?_
    refine tN (hKq24 _ _ ?_)
    refine wK fun Kq26 hKq26 => ?_
    refine wR ?_
    refine wg hF rfl rfl rfl (gv_move rfl (hF.t rfl)) fun a hF => ?_
    refine wg hF rfl rfl rfl (gv_move rfl (hF.t rfl)) fun a hF => ?_
    refine wg hF rfl rfl rfl (gv_nilCheck rfl (hF.t rfl)) fun a hF => ?_
    refine wg hF rfl rfl rfl (gv_field (r := 4) rfl u47 rfl rfl z22 (by decide) (hF.t rfl)) fun a hF => ?_
    refine wg hF rfl rfl rfl (gv_load rfl u22 rfl (hF.t rfl) (cell_ix (j := 4) (hS.cell (k := 1) rfl (rfl)) (by omega))) fun a hF => ?_
    refine wg hF rfl rfl rfl (gv_move rfl (hF.t rfl)) fun a hF => ?_
    refine wg hF rfl rfl rfl (gv_sliceLo (lo := N + 4 - 8) rfl u22 z5 (hF.t rfl) (hF.t rfl) (by omega)) fun a hF => ?_
    have hR3 : SRd w00 T (cutV A1 B1.length c1 (N + 4 - 8)) ((B1.drop (N + 4 - 8)).map vB) := by
     rw [List.map_drop]
     exact hB1.cutLo (lo := N + 4 - 8) (by omega)
    replace hS := hS.addNil (blk 5 (([] : List UInt8).map vB ++ []))
    refine wpList_stp (stp_appB (ob := none) (l := []) (pad := []) (k := 0) hF (wanted_none rfl) rfl rfl rfl u22 Tryd.ty5 rfl (ev_const _ _) (hF.t rfl) hS rfl (fun _ => ⟨rfl, rfl⟩) (by simp) (hR3 _ _ hS (nw_cons rfl (nw_cons rfl (nw_cons rfl hT))) (fun e he => List.mem_cons_of_mem _ (List.mem_cons_of_mem _ (List.mem_cons_of_mem _ (he))))) (by simp; omega) fun g gp a w hF go gc hS => ?_)
    simp only [List.nil_append] at hF go gc hS
    refine wg hF rfl rfl rfl (gv_nilCheck rfl (hF.t rfl)) fun a hF => ?_
    refine wg hF rfl rfl rfl (gv_field (r := 4) rfl u47 rfl rfl z22 (by decide) (hF.t rfl)) fun a hF => ?_
    refine wpList_stp (stp_storeAt (4) hF (wanted_none rfl) rfl rfl z22 (hF.t rfl) (by omega) (hF.t rfl) (own_one _ _ _) hS (k := 2) rfl (by simp) fun w hS => ?_)
    refine wN ?_
    refine tN (hKq26 _ _ ?_)
    refine wK fun Kq27 hKq27 => ?_
    refine wR ?_
    refine wg hF rfl rfl rfl (gv_move rfl (hF.t rfl)) fun a hF => ?_
    refine wg hF rfl rfl rfl (gv_nilCheck rfl (hF.t rfl)) fun a hF => ?_
    refine wg hF rfl rfl rfl (gv_field (r := 5) rfl u47 rfl rfl z22 (by decide) (hF.t rfl)) fun a hF => ?_
    refine wpList_stp (stp_storeAt (5) hF (wanted_none rfl) rfl rfl z22 (hF.t rfl) (by omega) (ev_const _ _) rfl hS (k := 2) rfl (by simp) fun w hS => ?_)
    refine wN ?_
    refine tN (hKq27 _ _ ?_)
    refine wK fun Kq28 hKq28 => ?_
    refine wR ?_
    refine wg hF rfl rfl rfl (gv_move rfl (hF.t rfl)) fun a hF => ?_
    refine wg hF rfl rfl rfl (gv_indexSl (q := 4) rfl u22 z5 (hF.t rfl) rfl (by omega)) fun a hF => ?_
    refine wg hF rfl rfl rfl (gv_load rfl u5 rfl (hF.t rfl) (cell_ix (j := 4) (hS.cell (k := 1) rfl (at_map (by omega) 0)) (by omega))) fun a hF => ?_
    refine wg hF rfl rfl rfl (gv_conv_b_i rfl u5 u3 (hF.t rfl)) fun a hF => ?_
    refine wg hF rfl rfl rfl (gv_assign rfl (hF.t rfl)) fun a hF => ?_
    refine wN ?_
    refine tN (hKq28 _ _ ?_)
    refine wK fun Kq29 hKq29 => ?_
    refine wK fun Kq30 hKq30 => ?_
    refine wR ?_
    refine wg hF rfl rfl rfl (gv_move rfl (hF.t rfl)) fun a hF => ?_
    refine wg hF rfl rfl rfl (gv_lss rfl (hF.t rfl) (ev_const _ _)) fun a hF => ?_
    refine wg hF rfl rfl rfl (gv_move rfl (hF.t rfl)) fun a hF => ?_
    refine wpList_stp (stp_gvG' hF rfl rfl rfl rfl rfl (fun hg => gv_move rfl (hF.t rfl)) fun a hF => ?_)
    refine wpList_stp (stp_gvG' hF rfl rfl rfl rfl rfl (fun hg => gv_len rfl u22 ((hF.t rfl).trans (if_neg hg))) fun a hF => ?_)
    refine wpList_stp (stp_gvG' hF rfl rfl rfl rfl rfl (fun hg => gv_nsub (n := 5) rfl ((hF.t rfl).trans (if_neg hg)) rfl (by omega) (by omega)) fun a hF => ?_)
    refine wpList_stp (stp_gvG' hF rfl rfl rfl rfl rfl (fun hg => gv_move rfl (hF.t rfl)) fun a hF => ?_)
    refine wpList_stp (stp_gvG' hF rfl rfl rfl rfl rfl (fun hg => gv_sub rfl ((hF.t rfl).trans (if_neg hg)) ((hF.t rfl).trans (if_neg hg)) (by omega) (by omega)) fun a hF => ?_)
    refine wpList_stp (stp_gvG' hF rfl rfl rfl rfl rfl (fun hg => gv_lss rfl ((hF.t rfl).trans (if_neg hg)) (ev_const _ _)) fun a hF => ?_)
    refine wg hF rfl rfl rfl (gv_pickOr rfl (hF.t rfl) (ev_const _ _) (hF.t rfl)) fun a hF => ?_
    refine wN ?_
    refine tN (hKq30 _ _ ?_)
    refine cond_dec (hF.t rfl) (fun h192 => ?_) (fun h192 => ?_)
    ·
     refine wK fun Kq31 hKq31 => ?_
     refine wR ?_
     refine wg hF rfl rfl rfl (gv_move rfl (hF.t rfl)) fun a hF => ?_
     replace hS := hS.move (k := 1) rfl
     replace hS := hS.move (k := 1) rfl
     replace hS := hS.move (k := 2) rfl
     simp only [List.set_cons_zero, List.set_cons_succ, List.eraseIdx_cons_succ, List.eraseIdx_cons_zero] at hS
     refine wpList_stp (stp_call hF (wanted_none rfl) rfl rfl Tryd.ok50 rfl (Evs.cons (hF.t rfl) (Evs.cons (ev_const _ _) Evs.nil)) (fail_ok (c := 3) hS) fun e w h => ?_)
     obtain ⟨rfl, hS⟩ := h
     refine ⟨_, rfl, fun a hF => ?_⟩
     refine wg hF rfl rfl rfl (gv_extract rfl (hF.t rfl) rfl) fun a hF => ?_
     refine wg hF rfl rfl rfl (gv_extract rfl (hF.t rfl) rfl) fun a hF => ?_
     refine wg hF rfl rfl rfl (gv_assign rfl (hF.t rfl)) fun a hF => ?_
     refine wg hF rfl rfl rfl (gv_assign rfl (hF.t rfl)) fun a hF => ?_
     refine wN ?_
     refine tN (hKq31 _ _ ?_)
     refine wp_ret ?_
     refine then_ret ?_
     refine ret2 (fn := Tryd.f17) (t := 2) (u := 3) hF rfl rfl rfl ?_
     rw [hst, step2_nil (by omega) (by omega) hN, ← hP, step4, if_pos (by omega)]
     replace hS := hS.move (k := 2) rfl
     replace hS := hS.move (k := 2) rfl
     simp only [List.set_cons_zero, List.set_cons_succ, List.eraseIdx_cons_succ, List.eraseIdx_cons_zero] at hS
     exact ⟨_, rfl, Rd.nil w, .inr (.inl ⟨rfl, rfl, rfl, (by show (3 : Nat) ≠ 0; decide), (by show (3 : Nat) ≠ 4; decide), [_, _], (nw_cons rfl (nw_cons rfl nw_nil)), stB2 hS⟩)⟩
    ·
     refine wp_skip ?_
     refine tN (hKq29 _ _ ?_)
     refine wK fun Kq32 hKq32 => ?_
     refine wR ?_
     refine wg hF rfl rfl rfl (gv_move rfl (hF.t rfl)) fun a hF => ?_
     refine wg hF rfl rfl rfl (gv_nilCheck rfl (hF.t rfl)) fun a hF => ?_
     refine wg hF rfl rfl rfl (gv_field (r := 0) rfl u47 rfl rfl z35 (by decide) (hF.t rfl)) fun a hF => ?_
     refine wg hF rfl rfl rfl (gv_field (r := 0) rfl u35 rfl rfl z32 (by decide) (hF.t rfl)) fun a hF => ?_
     refine wg hF rfl rfl rfl (gv_load rfl u32 rfl (hF.t rfl) (cell_ix (j := 0) (hS.cell (k := 2) rfl (rfl)) (by omega))) fun a hF => ?_
     refine wg hF rfl rfl rfl (gv_w_add (n := 1) rfl (hF.t rfl) rfl) fun a hF => ?_
     refine wg hF rfl rfl rfl (gv_nilCheck rfl (hF.t rfl)) fun a hF => ?_
     refine wg hF rfl rfl rfl (gv_field (r := 0) rfl u47 rfl rfl z35 (by decide) (hF.t rfl)) fun a hF => ?_
     refine wg hF rfl rfl rfl (gv_field (r := 0) rfl u35 rfl rfl z32 (by decide) (hF.t rfl)) fun a hF => ?_
     refine wpList_stp (stp_storeAt (0) hF (wanted_none rfl) rfl rfl z32 (hF.t rfl) (by omega) (hF.t rfl) rfl hS (k := 2) rfl (by simp) fun w hS => ?_)
     refine wN ?_
     refine tN (hKq32 _ _ ?_)
     refine wK fun Kq33 hKq33 => ?_
     refine wR ?_
     refine wg hF rfl rfl rfl (gv_move rfl (hF.t rfl)) fun a hF => ?_
     refine wg hF rfl rfl rfl (gv_nilCheck rfl (hF.t rfl)) fun a hF => ?_
     refine wg hF rfl rfl rfl (gv_field (r := 0) rfl u47 rfl rfl z35 (by decide) (hF.t rfl)) fun a hF => ?_
     refine wg hF rfl rfl rfl (gv_field (r := 3) rfl u35 rfl rfl z3 (by decide) (hF.t rfl)) fun a hF => ?_
     refine wg hF rfl rfl rfl (gv_load rfl u3 rfl (hF.t rfl) (cell_ix (j := 3) (hS.cell (k := 2) rfl (rfl)) (by omega))) fun a hF => ?_
     refine wg hF rfl rfl rfl (gv_nadd (n := 1) rfl (hF.t rfl) rfl (by omega)) fun a hF => ?_
     refine wg hF rfl rfl rfl (gv_nilCheck rfl (hF.t rfl)) fun a hF => ?_
     refine wg hF rfl rfl rfl (gv_field (r := 0) rfl u47 rfl rfl z35 (by decide) (hF.t rfl)) fun a hF => ?_
     refine wg hF rfl rfl rfl (gv_field (r := 3) rfl u35 rfl rfl z3 (by decide) (hF.t rfl)) fun a hF => ?_
     refine wpList_stp (stp_storeAt (3) hF (wanted_none rfl) rfl rfl z3 (hF.t rfl) (by omega) (hF.t rfl) rfl hS (k := 2) rfl (by simp) fun w hS => ?_)
     refine wN ?_
     refine tN (hKq33 _ _ ?_)
     refine wK fun Kq34 hKq34 => ?_
     refine wR ?_
     refine wg hF rfl rfl rfl (gv_move rfl (hF.t rfl)) fun a hF => ?_
     refine wg hF rfl rfl rfl (gv_move rfl (hF.t rfl)) fun a hF => ?_
     refine wg hF rfl rfl rfl (gv_len rfl u22 (hF.t rfl)) fun a hF => ?_
     refine wg hF rfl rfl rfl (gv_move rfl (hF.t rfl)) fun a hF => ?_
     refine wg hF rfl rfl rfl (gv_nsub rfl (hF.t rfl) (hF.t rfl) (by omega) (by omega)) fun a hF => ?_
     refine wg hF rfl rfl rfl (gv_move rfl (hF.t rfl)) fun a hF => ?_
     refine wg hF rfl rfl rfl (gv_len rfl u22 (hF.t rfl)) fun a hF => ?_
     refine wg hF rfl rfl rfl (gv_move rfl (hF.t rfl)) fun a hF => ?_
     refine wg hF rfl rfl rfl (gv_nsub rfl (hF.t rfl) (hF.t rfl) (by omega) (by omega)) fun a hF => ?_
     refine wg hF rfl rfl rfl (gv_slice3 (l := 5) rfl u22 z5 (hF.t rfl) rfl (hF.t rfl) (hF.t rfl) (by omega) (by omega) (by omega)) fun a hF => ?_
     refine wg hF rfl rfl rfl (gv_assign rfl (hF.t rfl)) fun a hF => ?_
     refine wg hF rfl rfl rfl (gv_assign rfl (ev_const _ _)) fun a hF => ?_
     refine wN ?_
     refine tN (hKq34 _ _ ?_)
     refine wp_ret ?_
     refine ret2 (fn := Tryd.f17) (t := 2) (u := 3) hF rfl rfl rfl ?_
     have hvS := (own_rd (w0 := w00) (T := [⟨true, some o, blk 5 (P.map vB ++ op)⟩]) (ob := some o) (l := P) List.mem_cons_self (fun h => by cases h) rfl oc).cut3 (l := 5) (h := P.length - (P.getD 4 0).toNat) (mx := P.length - (P.getD 4 0).toNat) (by omega) (by omega) (by omega) (by omega)
     rw [← List.map_take, ← List.map_drop] at hvS
     have hv := hvS w _ hS (nw_cons rfl (nw_cons rfl (nw_cons rfl hT))) (fun e he => by obtain rfl := List.mem_singleton.1 he; exact (List.mem_of_getElem? (i := 1) rfl))
     rw [hst, step2_nil (by omega) (by omega) hN, ← hP, step4, if_neg (by omega)]
     replace hS := hS.move (k := 2) rfl
     replace hS := hS.move (k := 2) rfl
     simp only [List.set_cons_zero, List.set_cons_succ, List.eraseIdx_cons_succ, List.eraseIdx_cons_zero] at hS
     exact ⟨_, rfl, hv, .inr (.inr ⟨rfl, rfl, rfl, g, gp, [_], hvS, go, gc, (nw_cons rfl nw_nil), by have := stB1 hS; exact this⟩)⟩
end Go.Proofs.YtfhalnobaeogkaaDoor
set_option linter.unusedVariables false
set_option linter.unusedSimpArgs false
namespace Go.Proofs.YtfhalnobaeogkaaDoor
open Go Go.RowKit Go.Fw
abbrev stQ (kl il : List UInt8) (a : Nat) : List UInt8 × List UInt8 := kst (keys kl) (il, []) a
abbrev strE (s : Nat) (kl il : List UInt8) (a : Nat) (lv : Value) : Ent := ⟨true, some s, strm (keys kl) (stQ kl il a).1 lv⟩
theorem pturn_ok {s a : Nat} {kl il bl B : List UInt8} {lv bv : Value} {okb : Option Nat} {w00 w : World} {T : List Ent} (hT : ∀ e ∈ T, e.nw = true) (hS : St w00 w (strE s kl il a lv :: kbE okb B :: T)) (hL : SRd w00 [kbE okb B] lv ((stQ kl il a).2.map vB)) (hb : SRd w00 T bv (bl.map vB)) (hil : il.length = 16) (hn : bl.length ≤ 1099511627776) :
  Calls Tryd.prog 46 #[.pointer (some ⟨s, 0, none⟩), bv] w fun e w' => ∃ ob pad lv1 okb1 B1, e = .returned (ownV ob bl.length (bl.length + pad.length)) ∧ (ob = none → turned kl il a bl = [] ∧ pad = []) ∧ bl.length + pad.length ≤ 9223372036854775807 ∧
   St w00 w' (rowE ob (turned kl il a bl) pad :: strE s kl il (a + bl.length) lv1 :: kbE okb1 B1 :: T) ∧ SRd w00 [kbE okb1 B1] lv1 ((stQ kl il (a + bl.length)).2.map vB) := by
 refine (turn_ok hT hS hL hb (keys_len kl) (kst_len (K := keys kl) (s := (il, [])) hil a) hn).mono fun e w' h => ?_
 obtain ⟨ob, pad, lv1, okb1, B1, he, ho, hc, hS1, hL1⟩ := h
 have e1 : outT (keys kl) ((stQ kl il a).1, (stQ kl il a).2) bl bl.length = turned kl il a bl := outT_turned hil a bl
 have e2 : kst (keys kl) ((stQ kl il a).1, (stQ kl il a).2) bl.length = stQ kl il (a + bl.length) := kst_add _ _ _ _
 rw [e1, e2] at hS1
 rw [e2] at hL1
 exact ⟨ob, pad, lv1, okb1, B1, he, fun h => ⟨List.length_eq_zero_iff.1 (by rw [turned_len, (ho h).1]; rfl), (ho h).2⟩, hc, hS1, hL1⟩
theorem St.toEnd {w0 w : World} {x : Ent} {P T : List Ent} (h : St w0 w (x :: (P ++ T))) : St w0 w (P ++ (T ++ [x])) := by
 refine h.perm ?_
 rw [← List.append_assoc]
 exact (List.perm_append_singleton x (P ++ T)).symm
structure PNext1 (w00 : World) (T : List Ent) (r s : Nat) (seq : UInt32) (mac : Value) (n : Nat) (kl il bl : List UInt8) (ho : Option (List UInt8)) (bv : Value) (Q : (List UInt8 × Nat) × QS) (e : Ending) (w' : World) : Prop where
  ex : ∃ v, e = .returned (.tuple #[v, vI Q.1.2]) ∧ Rd w' v (Q.1.1.map vB) ∧
    ((Q.1.2 = 4 ∧ v = .slice none 0 0 ∧ Q.1.1 = [] ∧ Q.2.dead = false ∧ ∃ bv' hv' oh hl hp lv okb Bk, (((ho.isSome = true ∨ bl.length < 16) ∧ bv' = bv) ∨ (ho = none ∧ 16 ≤ bl.length ∧ ∃ A c, bv = .slice A bl.length c ∧ 16 ≤ c ∧ bv' = cutV A bl.length c 16)) ∧ SRd w00 T bv' (Q.2.B.map vB) ∧
        ((Q.2.hd = none ∧ hv' = .slice none 0 0 ∧ oh = none ∧ hl = [] ∧ hp = []) ∨ ∃ hd, Q.2.hd = some hl ∧ hl.length = 16 ∧ oh = some hd ∧ hv' = .slice (some ⟨hd, 0, none⟩) 16 (16 + hp.length) ∧ 16 + hp.length ≤ 9223372036854775807) ∧
        SRd w00 [kbE okb Bk] lv ((stQ kl il Q.2.at_).2.map vB) ∧ St w00 w' (rdrE r seq (.pointer (some ⟨s, 0, none⟩)) mac n bv' hv' false :: strE s kl il Q.2.at_ lv :: kbE okb Bk :: rowE oh hl hp :: T)) ∨
     (Q.2.dead = true ∧ v = .slice none 0 0 ∧ Q.1.1 = [] ∧ Q.1.2 ≠ 0 ∧ Q.1.2 ≠ 4 ∧ ∃ Y, (∀ x ∈ Y, x.nw = true) ∧ St w00 w' (rdrE r seq (.pointer (some ⟨s, 0, none⟩)) mac n (.slice none 0 0) (.slice none 0 0) true :: (T ++ Y))) ∨
     (Q.1.2 = 0 ∧ Q.2.dead = false ∧ Q.2.hd = none ∧ ∃ g gp Y lv okb Bk, SRd w00 Y v (Q.1.1.map vB) ∧ (g = none → Q.2.B = [] ∧ gp = []) ∧ Q.2.B.length + gp.length ≤ 9223372036854775807 ∧ (∀ x ∈ Y, x.nw = true) ∧ SRd w00 [kbE okb Bk] lv ((stQ kl il Q.2.at_).2.map vB) ∧
        St w00 w' (rdrE r (seq + 1) (.pointer (some ⟨s, 0, none⟩)) mac (n + 1) (ownV g Q.2.B.length (Q.2.B.length + gp.length)) (.slice none 0 0) false :: strE s kl il Q.2.at_ lv :: kbE okb Bk :: rowE g Q.2.B gp :: (T ++ Y))))
theorem step2_key {kl il ml : List UInt8} {at_ sq n : Nat} {B hl : List UInt8} (h : ¬ (((u32A hl 4).toNat < 5 ∨ 2348 < (u32A hl 4).toNat) ∨ ¬ ((u32A hl 4).toNat + 4) % 16 = 0)) (h2 : ¬ B.length < (u32A hl 4).toNat + 4 - 16 + 32) {N : Nat} (hN : N = (u32A hl 4).toNat) :
  step2 ⟨some (kl, il, ml), at_, sq, n, B, none, false⟩ hl = if codeF (UInt32.ofNat sq) ml (hl ++ turned kl il at_ (B.take (N + 4 - 16))) ≠ (B.take (N + 4 - 16 + 32)).drop (N + 4 - 16) then (([], 5), ⟨some (kl, il, ml), at_ + (N + 4 - 16), sq, n, B, some hl, true⟩)
   else step4 ⟨some (kl, il, ml), at_ + (N + 4 - 16), sq, n, B.drop (N + 4 - 16 + 32), none, false⟩ (hl ++ turned kl il at_ (B.take (N + 4 - 16))) := by
 subst hN
 rw [step2, if_neg (by exact h), if_neg (by exact h2)]
 rfl
set_option maxHeartbeats 1000000 in
theorem pnext1_ok {w00 w : World} {T : List Ent} {r s n at_ sq : Nat} {seq : UInt32} {mac bv hv lv : Value} {bl kl il ml Bk hl0 : List UInt8} {ho : Option (List UInt8)} {okb oh : Option Nat} {hp : List Value} (hG : Glob w00) (hT : ∀ e ∈ T, e.nw = true) (hS : St w00 w (rdrE r seq (.pointer (some ⟨s, 0, none⟩)) mac n bv hv false :: strE s kl il at_ lv :: kbE okb Bk :: rowE oh hl0 hp :: T)) (hL : SRd w00 [kbE okb Bk] lv ((stQ kl il at_).2.map vB)) (hb : SRd w00 T bv (bl.map vB)) (hh : (ho = none ∧ hv = .slice none 0 0 ∧ oh = none ∧ hl0 = [] ∧ hp = []) ∨ ∃ hd, ho = some hl0 ∧ hl0.length = 16 ∧ oh = some hd ∧ hv = .slice (some ⟨hd, 0, none⟩) 16 (16 + hp.length) ∧ 16 + hp.length ≤ 9223372036854775807) (hil : il.length = 16) (hM : SRd w00 T mac (ml.map vB)) (hml : ml.length = 32) (hseq : seq = UInt32.ofNat sq) (hbl : bl.length ≤ 100000) (hn : n ≤ 4611686018427387904) :
  Calls Tryd.prog 17 #[.pointer (some ⟨r, 0, none⟩)] w (PNext1 w00 T r s seq mac n kl il bl ho bv (nextQ ⟨some (kl, il, ml), at_, sq, n, bl, ho, false⟩)) := by
 obtain ⟨A, c, rfl, hc, _, hcl⟩ := (hb w _ hS (nw_cons rfl (nw_cons rfl (nw_cons rfl (nw_cons rfl hT)))) (fun e he => List.mem_cons_of_mem _ (List.mem_cons_of_mem _ (List.mem_cons_of_mem _ (List.mem_cons_of_mem _ (he)))))).isB
 refine calls_start 225 Tryd.func17 rfl Tryd.ntmps17 rfl fun a hF => ?_
 refine wK fun Kq1 hKq1 => ?_
 refine wR ?_
 refine wg hF rfl rfl rfl (gv_assign rfl (ev_const _ _)) fun a hF => ?_
 refine wg hF rfl rfl rfl (gv_assign rfl (ev_const _ _)) fun a hF => ?_
 refine wN ?_
 refine tN (hKq1 _ _ ?_)
 refine wK fun Kq2 hKq2 => ?_
 refine wK fun Kq3 hKq3 => ?_
 refine wR ?_
 refine wg hF rfl rfl rfl (gv_move rfl (hF.t rfl)) fun a hF => ?_
 refine wg hF rfl rfl rfl (gv_eqlNil rfl u25 (hF.t rfl) (ev_const _ _)) fun a hF => ?_
 refine wg hF rfl rfl rfl (gv_move rfl (hF.t rfl)) fun a hF => ?_
 refine wpList_stp (stp_gv hF (wanted_of hF rfl rfl (rfl)) rfl rfl (gv_move rfl (hF.t rfl)) fun a hF => ?_)
 refine wpList_stp (stp_gv hF (wanted_of hF rfl rfl (rfl)) rfl rfl (gv_nilCheck rfl (hF.t rfl)) fun a hF => ?_)
 refine wpList_stp (stp_gv hF (wanted_of hF rfl rfl (rfl)) rfl rfl (gv_field (r := 6) rfl u47 rfl rfl z4 (by decide) (hF.t rfl)) fun a hF => ?_)
 refine wpList_stp (stp_gv hF (wanted_of hF rfl rfl (rfl)) rfl rfl (gv_load rfl u4 rfl (hF.t rfl) (cell_ix (j := 6) (hS.cell (k := 0) rfl (rfl)) (by omega))) fun a hF => ?_)
 refine wg hF rfl rfl rfl (gv_pickF rfl (hF.t rfl) (hF.t rfl)) fun a hF => ?_
 refine wN ?_
 refine tN (hKq3 _ _ ?_)
 refine wp_cond_false (hF.t rfl) ?_
 refine wp_skip ?_
 refine tN (hKq2 _ _ ?_)
 refine wK fun Kq4 hKq4 => ?_
 refine wR ?_
 refine wg hF rfl rfl rfl (gv_move rfl (hF.t rfl)) fun a hF => ?_
 refine wg hF rfl rfl rfl (gv_nilCheck rfl (hF.t rfl)) fun a hF => ?_
 refine wg hF rfl rfl rfl (gv_field (r := 0) rfl u47 rfl rfl z35 (by decide) (hF.t rfl)) fun a hF => ?_
 refine wpList_stp (stp_call hF (wanted_none rfl) rfl rfl Tryd.ok43 rfl (Evs.cons (hF.t rfl) Evs.nil) (blk1_ok (hS.cell (k := 0) (i := 1) (v := (.pointer (some ⟨s, 0, none⟩))) rfl rfl)) fun e w h => ?_)
 obtain ⟨rfl, hx⟩ := h
 refine ⟨_, rfl, fun a hF => ?_⟩
 replace hS := hS.ext hx
 clear hx
 refine wg hF rfl rfl rfl (gv_assign rfl (hF.t rfl)) fun a hF => ?_
 refine wN ?_
 refine tN (hKq4 _ _ ?_)
 refine wp_cut (fun a w => ∃ (hl B1 : List UInt8) (hd at1 : Nat) (A1 : Option Addr) (c1 : Nat) (hp : List Value) (lv : Value) (okb : Option Nat) (Bk : List UInt8), hl.length = 16 ∧ 16 + hp.length ≤ 9223372036854775807 ∧ SRd w00 T (.slice A1 B1.length c1) (B1.map vB) ∧ B1.length ≤ 100000 ∧ (((ho.isSome = true ∨ bl.length < 16) ∧ Value.slice A1 B1.length c1 = .slice A bl.length c) ∨ (ho = none ∧ 16 ≤ bl.length ∧ ∃ A2 c2, Value.slice A bl.length c = .slice A2 bl.length c2 ∧ 16 ≤ c2 ∧ Value.slice A1 B1.length c1 = cutV A2 bl.length c2 16)) ∧ SRd w00 [kbE okb Bk] lv ((stQ kl il at1).2.map vB) ∧ nextQ ⟨some (kl, il, ml), at_, sq, n, bl, ho, false⟩ = step2 ⟨some (kl, il, ml), at1, sq, n, B1, none, false⟩ hl ∧ Fr 225 a [(0, .pointer (some ⟨r, 0, none⟩)), (4, vI 16)] ∧ St w00 w (rdrE r seq (.pointer (some ⟨s, 0, none⟩)) mac n (.slice A1 B1.length c1) (.slice (some ⟨hd, 0, none⟩) 16 (16 + hp.length)) false :: strE s kl il at1 lv :: kbE okb Bk :: rowE (some hd) hl hp :: T)) ?_ ?_
 ·
  rcases hh with ⟨rfl, rfl, rfl, rfl, rfl⟩ | ⟨hd, rfl, hhl, rfl, rfl, hdc⟩
  ·
   refine wK fun Kq5 hKq5 => ?_
   refine wR ?_
   refine wg hF rfl rfl rfl (gv_move rfl (hF.t rfl)) fun a hF => ?_
   refine wg hF rfl rfl rfl (gv_nilCheck rfl (hF.t rfl)) fun a hF => ?_
   refine wg hF rfl rfl rfl (gv_field (r := 5) rfl u47 rfl rfl z22 (by decide) (hF.t rfl)) fun a hF => ?_
   refine wg hF rfl rfl rfl (gv_load rfl u22 rfl (hF.t rfl) (cell_ix (j := 5) (hS.cell (k := 0) rfl (rfl)) (by omega))) fun a hF => ?_
   refine wg hF rfl rfl rfl (gv_eqlNilS rfl u22 (hF.t rfl) (ev_const _ _)) fun a hF => ?_
   refine wN ?_
   refine tN (hKq5 _ _ ?_)
   refine wp_cond_true (hF.t rfl) ?_
   refine wK fun Kq6 hKq6 => ?_
   refine wK fun Kq7 hKq7 => ?_
   refine wR ?_
   refine wg hF rfl rfl rfl (gv_move rfl (hF.t rfl)) fun a hF => ?_
   refine wg hF rfl rfl rfl (gv_nilCheck rfl (hF.t rfl)) fun a hF => ?_
   refine wg hF rfl rfl rfl (gv_field (r := 4) rfl u47 rfl rfl z22 (by decide) (hF.t rfl)) fun a hF => ?_
   refine wg hF rfl rfl rfl (gv_load rfl u22 rfl (hF.t rfl) (cell_ix (j := 4) (hS.cell (k := 0) rfl (rfl)) (by omega))) fun a hF => ?_
   refine wg hF rfl rfl rfl (gv_len rfl u22 (hF.t rfl)) fun a hF => ?_
   refine wg hF rfl rfl rfl (gv_move rfl (hF.t rfl)) fun a hF => ?_
   refine wg hF rfl rfl rfl (gv_lss rfl (hF.t rfl) (hF.t rfl)) fun a hF => ?_
   refine wN ?_
   refine tN (hKq7 _ _ ?_)
   refine cond_dec (hF.t rfl) (fun h32 => ?_) (fun h32 => ?_)
   ·
    refine wK fun Kq8 hKq8 => ?_
    refine wR ?_
    refine wg hF rfl rfl rfl (gv_assign rfl (ev_const _ _)) fun a hF => ?_
    refine wg hF rfl rfl rfl (gv_assign rfl (ev_const _ _)) fun a hF => ?_
    refine wN ?_
    refine tN (hKq8 _ _ ?_)
    refine wp_ret ?_
    refine then_ret ?_
    refine then_ret ?_
    refine ret2 (fn := Tryd.f17) (t := 2) (u := 3) hF rfl rfl rfl ?_
    rw [nextQ, if_neg Bool.false_ne_true]
    show PNext1 _ _ _ _ _ _ _ _ _ _ _ _ (if bl.length < 16 then _ else _) _ _
    rw [if_pos (by omega)]
    exact ⟨_, rfl, Rd.nil w, .inl ⟨rfl, rfl, rfl, rfl, _, _, _, _, _, _, _, _, .inl ⟨.inr (by omega), rfl⟩, hb, .inl ⟨rfl, rfl, rfl, rfl, rfl⟩, hL, hS⟩⟩
   ·
    refine wp_skip ?_
    refine tN (hKq6 _ _ ?_)
    refine wK fun Kq9 hKq9 => ?_
    refine wR ?_
    refine wg hF rfl rfl rfl (gv_move rfl (hF.t rfl)) fun a hF => ?_
    refine wg hF rfl rfl rfl (gv_move rfl (hF.t rfl)) fun a hF => ?_
    refine wg hF rfl rfl rfl (gv_nilCheck rfl (hF.t rfl)) fun a hF => ?_
    refine wg hF rfl rfl rfl (gv_field (r := 4) rfl u47 rfl rfl z22 (by decide) (hF.t rfl)) fun a hF => ?_
    refine wg hF rfl rfl rfl (gv_load rfl u22 rfl (hF.t rfl) (cell_ix (j := 4) (hS.cell (k := 0) rfl (rfl)) (by omega))) fun a hF => ?_
    refine wg hF rfl rfl rfl (gv_move rfl (hF.t rfl)) fun a hF => ?_
    refine wg hF rfl rfl rfl (gv_move rfl (hF.t rfl)) fun a hF => ?_
    refine wg hF rfl rfl rfl (gv_sliceHM (h := 16) (mx := 16) rfl u22 z5 (hF.t rfl) (hF.t rfl) (hF.t rfl) (by omega) (by omega)) fun a hF => ?_
    refine wg hF rfl rfl rfl (gv_nilCheck rfl (hF.t rfl)) fun a hF => ?_
    refine wg hF rfl rfl rfl (gv_field (r := 5) rfl u47 rfl rfl z22 (by decide) (hF.t rfl)) fun a hF => ?_
    refine wpList_stp (stp_storeAt (5) hF (wanted_none rfl) rfl rfl z22 (hF.t rfl) (by omega) (hF.t rfl) rfl hS (k := 0) rfl (by simp) fun w hS => ?_)
    refine wN ?_
    refine tN (hKq9 _ _ ?_)
    refine wK fun Kq10 hKq10 => ?_
    refine wK fun Kq11 hKq11 => ?_
    refine wR ?_
    refine wg hF rfl rfl rfl (gv_move rfl (hF.t rfl)) fun a hF => ?_
    refine wg hF rfl rfl rfl (gv_nilCheck rfl (hF.t rfl)) fun a hF => ?_
    refine wg hF rfl rfl rfl (gv_field (r := 0) rfl u47 rfl rfl z35 (by decide) (hF.t rfl)) fun a hF => ?_
    refine wg hF rfl rfl rfl (gv_field (r := 1) rfl u35 rfl rfl z33 (by decide) (hF.t rfl)) fun a hF => ?_
    refine wg hF rfl rfl rfl (gv_load rfl u33 rfl (hF.t rfl) (cell_ix (j := 1) (hS.cell (k := 0) rfl (rfl)) (by omega))) fun a hF => ?_
    refine wg hF rfl rfl rfl (gv_neqNil rfl u33 (hF.t rfl) (ev_const _ _)) fun a hF => ?_
    refine wN ?_
    refine tN (hKq11 _ _ ?_)
    refine wp_cond_true (hF.t rfl) ?_
    refine Fw.wp_region_draw (by kernel_rfl) fun w hx => ?_
    replace hS := hS.ext hx
    clear hx
    refine run_swalkI ⟨fun w => stays w00 (rdrE r seq (.pointer (some ⟨s, 0, none⟩)) mac n (.slice A bl.length c) (.slice A 16 16) false) (rdrE r seq (.pointer (some ⟨s, 0, none⟩)) mac n (.slice A bl.length c) (.slice A 16 16) false) T w, w, ⟨_, hS, (nw_cons rfl (nw_cons rfl (nw_cons rfl (nw_cons rfl hT)))), (List.mem_of_getElem? (i := 0) rfl), (List.mem_of_getElem? (i := 0) rfl), (fun e he => List.mem_cons_of_mem _ (List.mem_cons_of_mem _ (List.mem_cons_of_mem _ (List.mem_cons_of_mem _ (he)))))⟩⟩ _ 0 11 [10] [] _ (⟨_, hS, (nw_cons rfl (nw_cons rfl (nw_cons rfl (nw_cons rfl hT)))), (List.mem_of_getElem? (i := 0) rfl), (List.mem_of_getElem? (i := 0) rfl), (fun e he => List.mem_cons_of_mem _ (List.mem_cons_of_mem _ (List.mem_cons_of_mem _ (List.mem_cons_of_mem _ (he)))))⟩) (by kernel_rfl) (by kernel_rfl) rfl hF.size ?_
    refine sg hF rfl rfl rfl rfl (fun w hx => gv_move rfl (hF.t rfl)) fun a hF => ?_
    refine sg hF rfl rfl rfl rfl (fun w hx => gv_move rfl (hF.t rfl)) fun a hF => ?_
    refine sg hF rfl rfl rfl rfl (fun w hx => gv_nilCheck rfl (hF.t rfl)) fun a hF => ?_
    refine sg hF rfl rfl rfl rfl (fun w hx => gv_field (r := 0) rfl u47 rfl rfl z35 (by decide) (hF.t rfl)) fun a hF => ?_
    refine sg hF rfl rfl rfl rfl (fun w hx => gv_field (r := 1) rfl u35 rfl rfl z33 (by decide) (hF.t rfl)) fun a hF => ?_
    refine sg hF rfl rfl rfl rfl (fun w hx => gv_load rfl u33 rfl (hF.t rfl) (hx.cell (i := 1) rfl)) fun a hF => ?_
    refine sg hF rfl rfl rfl rfl (fun w hx => gv_move rfl (hF.t rfl)) fun a hF => ?_
    refine sg hF rfl rfl rfl rfl (fun w hx => gv_nilCheck rfl (hF.t rfl)) fun a hF => ?_
    refine sg hF rfl rfl rfl rfl (fun w hx => gv_field (r := 5) rfl u47 rfl rfl z22 (by decide) (hF.t rfl)) fun a hF => ?_
    refine sg hF rfl rfl rfl rfl (fun w hx => gv_load rfl u22 rfl (hF.t rfl) (hx.cell (i := 5) rfl)) fun a hF => ?_
    replace hS := hS.move (k := 3) rfl
    replace hS := hS.move (k := 1) rfl
    replace hS := hS.move (k := 3) rfl
    replace hS := hS.move (k := 3) rfl
    simp only [List.set_cons_zero, List.set_cons_succ, List.eraseIdx_cons_succ, List.eraseIdx_cons_zero] at hS
    refine sw_eff rfl (stp_call hF (wanted_none rfl) rfl rfl Tryd.ok46 rfl (Evs.cons (hF.t rfl) (Evs.cons (hF.t rfl) Evs.nil)) (pturn_ok (bl := bl.take 16) (nw_cons rfl (nw_cons rfl hT)) hS hL ((show SRd w00 T (.slice A 16 16) ((bl.take 16).map vB) by rw [List.map_take]; exact hb.cutHM (by omega) (by omega) (by omega)).mono (fun e he => List.mem_cons_of_mem _ (List.mem_cons_of_mem _ he))) hil (by rw [List.length_take]; omega)) fun e w h => ?_)
    obtain ⟨hd, hdp, lv, okb, Bk, rfl, hdo, hdc, hS, hL⟩ := h
    refine ⟨_, rfl, fun a hF => ?_⟩
    have hdl : (bl.take 16).length = 16 := by rw [List.length_take]; omega
    rw [hdl] at hF hS hL hdc
    obtain ⟨hd, rfl⟩ := own_some hdo (by rw [turned_len]; omega)
    refine ⟨⟨_, hS, (nw_cons rfl (nw_cons rfl (nw_cons rfl (nw_cons rfl (nw_cons rfl hT))))), (List.mem_of_getElem? (i := 3) rfl), (List.mem_of_getElem? (i := 3) rfl), (fun e he => List.mem_cons_of_mem _ (List.mem_cons_of_mem _ (List.mem_cons_of_mem _ (List.mem_cons_of_mem _ (List.mem_cons_of_mem _ (he))))))⟩, ?_⟩
    refine sw_nil ?_
    refine run_stp (by kernel_rfl) rfl (stp_gv hF (wanted_none rfl) rfl rfl (gv_nilCheck rfl (hF.t rfl)) fun a hF => ?_)
    refine run_stp (by kernel_rfl) rfl (stp_gv hF (wanted_none rfl) rfl rfl (gv_field (r := 5) rfl u47 rfl rfl z22 (by decide) (hF.t rfl)) fun a hF => ?_)
    refine run_stp (by kernel_rfl) rfl (stp_storeAt (5) hF (wanted_none rfl) rfl rfl z22 (hF.t rfl) (by omega) (hF.t rfl) rfl hS (k := 3) rfl (by simp) fun w hS => ?_)
    refine run_done (by decide) ?_
    refine tN (hKq10 _ _ ?_)
    refine wR ?_
    refine wg hF rfl rfl rfl (gv_move rfl (hF.t rfl)) fun a hF => ?_
    refine wg hF rfl rfl rfl (gv_move rfl (hF.t rfl)) fun a hF => ?_
    refine wg hF rfl rfl rfl (gv_nilCheck rfl (hF.t rfl)) fun a hF => ?_
    refine wg hF rfl rfl rfl (gv_field (r := 4) rfl u47 rfl rfl z22 (by decide) (hF.t rfl)) fun a hF => ?_
    refine wg hF rfl rfl rfl (gv_load rfl u22 rfl (hF.t rfl) (cell_ix (j := 4) (hS.cell (k := 3) rfl (rfl)) (by omega))) fun a hF => ?_
    refine wg hF rfl rfl rfl (gv_move rfl (hF.t rfl)) fun a hF => ?_
    refine wg hF rfl rfl rfl (gv_sliceLo (lo := 16) rfl u22 z5 (hF.t rfl) (hF.t rfl) (by omega)) fun a hF => ?_
    refine wg hF rfl rfl rfl (gv_nilCheck rfl (hF.t rfl)) fun a hF => ?_
    refine wg hF rfl rfl rfl (gv_field (r := 4) rfl u47 rfl rfl z22 (by decide) (hF.t rfl)) fun a hF => ?_
    refine wpList_stp (stp_storeAt (4) hF (wanted_none rfl) rfl rfl z22 (hF.t rfl) (by omega) (hF.t rfl) rfl hS (k := 3) rfl (by simp) fun w hS => ?_)
    refine wN ?_
    refine then_normal ?_
    replace hS := hS.move (k := 2) rfl
    replace hS := hS.move (k := 2) rfl
    replace hS := hS.move (k := 3) rfl
    replace hS := hS.move (k := 4) rfl
    simp only [List.set_cons_zero, List.set_cons_succ, List.eraseIdx_cons_succ, List.eraseIdx_cons_zero] at hS
    replace hS := hS.drop rfl
    have hdl2 : (bl.drop 16).length = bl.length - 16 := List.length_drop
    exact ⟨turned kl il at_ (bl.take 16), bl.drop 16, hd, at_ + 16, _, _, hdp, lv, okb, Bk, by rw [turned_len, hdl], hdc, by rw [hdl2, List.map_drop]; exact hb.cutLo (lo := 16) (by omega), by omega, .inr ⟨rfl, by omega, _, _, rfl, by omega, by rw [hdl2]; rfl⟩, hL, by rw [nextQ, if_neg Bool.false_ne_true]; exact if_neg (by show ¬ bl.length < 16; omega), hF.sub ⟨rfl, rfl, trivial⟩, by rw [hdl2]; exact hS⟩
  ·
   refine wK fun Kq12 hKq12 => ?_
   refine wR ?_
   refine wg hF rfl rfl rfl (gv_move rfl (hF.t rfl)) fun a hF => ?_
   refine wg hF rfl rfl rfl (gv_nilCheck rfl (hF.t rfl)) fun a hF => ?_
   refine wg hF rfl rfl rfl (gv_field (r := 5) rfl u47 rfl rfl z22 (by decide) (hF.t rfl)) fun a hF => ?_
   refine wg hF rfl rfl rfl (gv_load rfl u22 rfl (hF.t rfl) (cell_ix (j := 5) (hS.cell (k := 0) rfl (rfl)) (by omega))) fun a hF => ?_
   refine wg hF rfl rfl rfl (gv_eqlNilS rfl u22 (hF.t rfl) (ev_const _ _)) fun a hF => ?_
   refine wN ?_
   refine tN (hKq12 _ _ ?_)
   refine wp_cond_false (hF.t rfl) ?_
   refine wp_skip ?_
   refine then_normal ?_
   exact ⟨hl0, bl, hd, at_, A, c, hp, lv, okb, Bk, hhl, hdc, hb, hbl, .inl ⟨.inl rfl, rfl⟩, hL, rfl, hF.sub ⟨rfl, rfl, trivial⟩, hS⟩
 ·
  rintro a w ⟨hl, B1, hd, at1, A1, c1, hp, lv, okb, Bk, hhl, hdc, hB1, hB1l, hcut, hL, hst, hF, hS⟩
  obtain ⟨N, hN⟩ : ∃ N, N = (u32A hl 4).toNat := ⟨_, rfl⟩
  have hNl := (u32A hl 4).toNat_lt
  have hc1 : B1.length ≤ c1 := by obtain ⟨_, _, h1, h2, _, _⟩ := (hB1 w _ hS (nw_cons rfl (nw_cons rfl (nw_cons rfl (nw_cons rfl hT)))) (fun e he => List.mem_cons_of_mem _ (List.mem_cons_of_mem _ (List.mem_cons_of_mem _ (List.mem_cons_of_mem _ (he)))))).isB; injection h1 with _ _ h3; omega
  refine wK fun Kq13 hKq13 => ?_
  refine wR ?_
  refine wg hF rfl rfl rfl (gv_move rfl (hF.t rfl)) fun a hF => ?_
  refine wg hF rfl rfl rfl (gv_nilCheck rfl (hF.t rfl)) fun a hF => ?_
  refine wg hF rfl rfl rfl (gv_field (r := 5) rfl u47 rfl rfl z22 (by decide) (hF.t rfl)) fun a hF => ?_
  refine wg hF rfl rfl rfl (gv_load rfl u22 rfl (hF.t rfl) (cell_ix (j := 5) (hS.cell (k := 0) rfl (rfl)) (by omega))) fun a hF => ?_
  refine wpList_stp (stp_call hF (wanted_none rfl) rfl rfl Tryd.ok48 rfl (Evs.cons (hF.t rfl) Evs.nil) from_ok fun e w h => ?_)
  obtain ⟨rr, rfl, hN2⟩ := h
  refine ⟨_, rfl, fun a hF => ?_⟩
  replace hS := hS.join hN2 (nw_cons rfl nw_nil)
  simp only [List.cons_append, List.nil_append] at hS
  clear hN2
  have hhd := own_rd (w0 := w00) (T := [rowE (some hd) hl hp]) (ob := some hd) (l := hl) (pad := hp) List.mem_cons_self (fun h => by cases h) hhl hdc
  refine wpList_stp (stp_call hF (wanted_none rfl) rfl rfl Tryd.ok49 rfl (Evs.cons (hF.t rfl) Evs.nil) (ru32_ok (bl := hl) (c := 16 + hp.length) (nw_cons rfl (nw_cons rfl (nw_cons rfl (nw_cons rfl hT)))) (by rw [hhl]; exact hS) (by rw [hhl]; exact SRd.mono hhd (fun e he => by obtain rfl := List.mem_singleton.1 he; exact (List.mem_of_getElem? (i := 3) rfl))) (by omega) (by omega)) fun e w h => ?_)
  obtain ⟨rfl, hS⟩ := h
  refine ⟨_, rfl, fun a hF => ?_⟩
  replace hS := hS.drop rfl
  refine wg hF rfl rfl rfl (gv_conv_w_i rfl u32 u3 (hF.t rfl)) fun a hF => ?_
  rw [← hN] at hF
  refine wg hF rfl rfl rfl (gv_assign rfl (hF.t rfl)) fun a hF => ?_
  refine wN ?_
  refine tN (hKq13 _ _ ?_)
  refine wK fun Kq14 hKq14 => ?_
  refine wK fun Kq15 hKq15 => ?_
  refine wR ?_
  refine wg hF rfl rfl rfl (gv_move rfl (hF.t rfl)) fun a hF => ?_
  refine wg hF rfl rfl rfl (gv_lss rfl (hF.t rfl) (ev_const _ _)) fun a hF => ?_
  refine wg hF rfl rfl rfl (gv_move rfl (hF.t rfl)) fun a hF => ?_
  refine wpList_stp (stp_gvG' hF rfl rfl rfl rfl rfl (fun hg => gv_move rfl (hF.t rfl)) fun a hF => ?_)
  refine wpList_stp (stp_gvG' hF rfl rfl rfl rfl rfl (fun hg => gv_gtr rfl ((hF.t rfl).trans (if_neg hg)) (ev_const _ _)) fun a hF => ?_)
  refine wg hF rfl rfl rfl (gv_pickOr rfl (hF.t rfl) (ev_const _ _) (hF.t rfl)) fun a hF => ?_
  refine wg hF rfl rfl rfl (gv_move rfl (hF.t rfl)) fun a hF => ?_
  refine wpList_stp (stp_gvG' hF rfl rfl rfl rfl rfl (fun hg => gv_move rfl (hF.t rfl)) fun a hF => ?_)
  refine wpList_stp (stp_gvG' hF rfl rfl rfl rfl rfl (fun hg => gv_nadd (n := 4) rfl ((hF.t rfl).trans (if_neg hg)) rfl (by omega)) fun a hF => ?_)
  refine wpList_stp (stp_gvG' hF rfl rfl rfl rfl rfl (fun hg => gv_move rfl (hF.t rfl)) fun a hF => ?_)
  refine wpList_stp (stp_gvG' hF rfl rfl rfl rfl rfl (fun hg => gv_nrem (n := 16) rfl ((hF.t rfl).trans (if_neg hg)) ((hF.t rfl).trans (if_neg hg)) (by omega)) fun a hF => ?_)
  refine wpList_stp (stp_gvG' hF rfl rfl rfl rfl rfl (fun hg => gv_neq rfl ((hF.t rfl).trans (if_neg hg)) (ev_const _ _)) fun a hF => ?_)
  refine wg hF rfl rfl rfl (gv_pickOr rfl (hF.t rfl) (ev_const _ _) (hF.t rfl)) fun a hF => ?_
  refine wN ?_
  refine tN (hKq15 _ _ ?_)
  refine cond_dec (hF.t rfl) (fun h90 => ?_) (fun h90 => ?_)
  ·
   refine wK fun Kq16 hKq16 => ?_
   refine wR ?_
   refine wg hF rfl rfl rfl (gv_move rfl (hF.t rfl)) fun a hF => ?_
   refine wpList_stp (stp_call hF (wanted_none rfl) rfl rfl Tryd.ok50 rfl (Evs.cons (hF.t rfl) (Evs.cons (ev_const _ _) Evs.nil)) (fail_ok (c := 2) hS) fun e w h => ?_)
   obtain ⟨rfl, hS⟩ := h
   refine ⟨_, rfl, fun a hF => ?_⟩
   refine wg hF rfl rfl rfl (gv_extract rfl (hF.t rfl) rfl) fun a hF => ?_
   refine wg hF rfl rfl rfl (gv_extract rfl (hF.t rfl) rfl) fun a hF => ?_
   refine wg hF rfl rfl rfl (gv_assign rfl (hF.t rfl)) fun a hF => ?_
   refine wg hF rfl rfl rfl (gv_assign rfl (hF.t rfl)) fun a hF => ?_
   refine wN ?_
   refine tN (hKq16 _ _ ?_)
   refine wp_ret ?_
   refine then_ret ?_
   refine ret2 (fn := Tryd.f17) (t := 2) (u := 3) hF rfl rfl rfl ?_
   rw [hst, step2, if_pos (by show (((u32A hl 4).toNat < 5 ∨ 2348 < (u32A hl 4).toNat) ∨ ¬ ((u32A hl 4).toNat + 4) % 16 = 0); omega)]
   refine ⟨_, rfl, Rd.nil w, .inr (.inl ⟨rfl, rfl, rfl, (by show (2 : Nat) ≠ 0; decide), (by show (2 : Nat) ≠ 4; decide), [_, _, _], ?_, hS.perm (List.Perm.cons _ (List.perm_append_comm (l₁ := [_, _, _]) (l₂ := T)))⟩)⟩
   exact (nw_cons rfl (nw_cons rfl (nw_cons rfl nw_nil)))
  ·
   refine wp_skip ?_
   refine tN (hKq14 _ _ ?_)
   refine wK fun Kq17 hKq17 => ?_
   refine wR ?_
   refine wg hF rfl rfl rfl (gv_move rfl (hF.t rfl)) fun a hF => ?_
   refine wg hF rfl rfl rfl (gv_nadd (n := 4) rfl (hF.t rfl) rfl (by omega)) fun a hF => ?_
   refine wg hF rfl rfl rfl (gv_move rfl (hF.t rfl)) fun a hF => ?_
   refine wg hF rfl rfl rfl (gv_nsub (n := 16) rfl (hF.t rfl) (hF.t rfl) (by omega) (by omega)) fun a hF => ?_
   refine wg hF rfl rfl rfl (gv_assign rfl (hF.t rfl)) fun a hF => ?_
   refine wN ?_
   refine tN (hKq17 _ _ ?_)
   refine wK fun Kq18 hKq18 => ?_
   refine wK fun Kq19 hKq19 => ?_
   refine wR ?_
   refine wg hF rfl rfl rfl (gv_move rfl (hF.t rfl)) fun a hF => ?_
   refine wg hF rfl rfl rfl (gv_nilCheck rfl (hF.t rfl)) fun a hF => ?_
   refine wg hF rfl rfl rfl (gv_field (r := 0) rfl u47 rfl rfl z35 (by decide) (hF.t rfl)) fun a hF => ?_
   refine wg hF rfl rfl rfl (gv_field (r := 1) rfl u35 rfl rfl z33 (by decide) (hF.t rfl)) fun a hF => ?_
   refine wg hF rfl rfl rfl (gv_load rfl u33 rfl (hF.t rfl) (cell_ix (j := 1) (hS.cell (k := 0) rfl (rfl)) (by omega))) fun a hF => ?_
   refine wg hF rfl rfl rfl (gv_neqNil rfl u33 (hF.t rfl) (ev_const _ _)) fun a hF => ?_
   refine wN ?_
   refine tN (hKq19 _ _ ?_)
   refine wp_cond_true (hF.t rfl) ?_
   refine wR ?_
   refine wg hF rfl rfl rfl (gv_move rfl (hF.t rfl)) fun a hF => ?_
   refine wg hF rfl rfl rfl (gv_nadd (n := 32) rfl (hF.t rfl) rfl (by omega)) fun a hF => ?_
   refine wg hF rfl rfl rfl (gv_assign rfl (hF.t rfl)) fun a hF => ?_
   refine wN ?_
   refine tN (hKq18 _ _ ?_)
   refine wK fun Kq20 hKq20 => ?_
   refine wK fun Kq21 hKq21 => ?_
   refine wR ?_
   refine wg hF rfl rfl rfl (gv_move rfl (hF.t rfl)) fun a hF => ?_
   refine wg hF rfl rfl rfl (gv_nilCheck rfl (hF.t rfl)) fun a hF => ?_
   refine wg hF rfl rfl rfl (gv_field (r := 4) rfl u47 rfl rfl z22 (by decide) (hF.t rfl)) fun a hF => ?_
   refine wg hF rfl rfl rfl (gv_load rfl u22 rfl (hF.t rfl) (cell_ix (j := 4) (hS.cell (k := 0) rfl (rfl)) (by omega))) fun a hF => ?_
   refine wg hF rfl rfl rfl (gv_len rfl u22 (hF.t rfl)) fun a hF => ?_
   refine wg hF rfl rfl rfl (gv_move rfl (hF.t rfl)) fun a hF => ?_
   refine wg hF rfl rfl rfl (gv_lss rfl (hF.t rfl) (hF.t rfl)) fun a hF => ?_
   refine wN ?_
   refine tN (hKq21 _ _ ?_)
   refine cond_dec (hF.t rfl) (fun h113 => ?_) (fun h113 => ?_)
   ·
    refine wK fun Kq22 hKq22 => ?_
    refine wR ?_
    refine wg hF rfl rfl rfl (gv_assign rfl (ev_const _ _)) fun a hF => ?_
    refine wg hF rfl rfl rfl (gv_assign rfl (ev_const _ _)) fun a hF => ?_
    refine wN ?_
    refine tN (hKq22 _ _ ?_)
    refine wp_ret ?_
    refine then_ret ?_
    refine ret2 (fn := Tryd.f17) (t := 2) (u := 3) hF rfl rfl rfl ?_
    rw [hst, step2, if_neg (by show ¬ (((u32A hl 4).toNat < 5 ∨ 2348 < (u32A hl 4).toNat) ∨ ¬ ((u32A hl 4).toNat + 4) % 16 = 0); omega), if_pos (by show B1.length < (u32A hl 4).toNat + 4 - 16 + 32; omega)]
    exact ⟨_, rfl, Rd.nil w, .inl ⟨rfl, rfl, rfl, rfl, _, _, _, _, _, _, _, _, hcut, hB1, .inr ⟨hd, rfl, hhl, rfl, rfl, hdc⟩, hL, hS⟩⟩
   ·
    refine wp_skip ?_
    refine tN (hKq20 _ _ ?_)
    refine wK fun Kq23 hKq23 => ?_
    refine wR ?_
    refine wg hF rfl rfl rfl (gv_move rfl (hF.t rfl)) fun a hF => ?_
    refine wg hF rfl rfl rfl (gv_nilCheck rfl (hF.t rfl)) fun a hF => ?_
    refine wg hF rfl rfl rfl (gv_field (r := 5) rfl u47 rfl rfl z22 (by decide) (hF.t rfl)) fun a hF => ?_
    refine wg hF rfl rfl rfl (gv_load rfl u22 rfl (hF.t rfl) (cell_ix (j := 5) (hS.cell (k := 0) rfl (rfl)) (by omega))) fun a hF => ?_
    refine wg hF rfl rfl rfl (gv_assign rfl (hF.t rfl)) fun a hF => ?_
    refine wN ?_
    refine tN (hKq23 _ _ ?_)
    refine wK fun Kq24 hKq24 => ?_
    refine wK fun Kq25 hKq25 => ?_
    refine wR ?_
    refine wg hF rfl rfl rfl (gv_move rfl (hF.t rfl)) fun a hF => ?_
    refine wg hF rfl rfl rfl (gv_nilCheck rfl (hF.t rfl)) fun a hF => ?_
    refine wg hF rfl rfl rfl (gv_field (r := 0) rfl u47 rfl rfl z35 (by decide) (hF.t rfl)) fun a hF => ?_
    refine wg hF rfl rfl rfl (gv_field (r := 1) rfl u35 rfl rfl z33 (by decide) (hF.t rfl)) fun a hF => ?_
    refine wg hF rfl rfl rfl (gv_load rfl u33 rfl (hF.t rfl) (cell_ix (j := 1) (hS.cell (k := 0) rfl (rfl)) (by omega))) fun a hF => ?_
    refine wg hF rfl rfl rfl (gv_neqNil rfl u33 (hF.t rfl) (ev_const _ _)) fun a hF => ?_
    refine wN ?_
    refine tN (hKq25 _ _ ?_)
    refine wp_cond_true (hF.t rfl) ?_
    refine wK fun Kq26 hKq26 => ?_
    refine Fw.wp_region_draw (by kernel_rfl) fun w hx => ?_
    replace hS := hS.ext hx
    clear hx
    refine run_swalkI ⟨fun w => stays w00 (rdrE r seq (.pointer (some ⟨s, 0, none⟩)) mac n (.slice A1 B1.length c1) (.slice (some ⟨hd, 0, none⟩) 16 (16 + hp.length)) false) (rdrE r seq (.pointer (some ⟨s, 0, none⟩)) mac n (.slice A1 B1.length c1) (.slice (some ⟨hd, 0, none⟩) 16 (16 + hp.length)) false) T w, w, ⟨_, hS, (nw_cons rfl (nw_cons rfl (nw_cons rfl (nw_cons rfl hT)))), (List.mem_of_getElem? (i := 0) rfl), (List.mem_of_getElem? (i := 0) rfl), (fun e he => List.mem_cons_of_mem _ (List.mem_cons_of_mem _ (List.mem_cons_of_mem _ (List.mem_cons_of_mem _ (he)))))⟩⟩ _ 0 15 [13, 14] [[13]] _ (⟨_, hS, (nw_cons rfl (nw_cons rfl (nw_cons rfl (nw_cons rfl hT)))), (List.mem_of_getElem? (i := 0) rfl), (List.mem_of_getElem? (i := 0) rfl), (fun e he => List.mem_cons_of_mem _ (List.mem_cons_of_mem _ (List.mem_cons_of_mem _ (List.mem_cons_of_mem _ (he)))))⟩) (by kernel_rfl) (by kernel_rfl) rfl hF.size ?_
    refine sg hF rfl rfl rfl rfl (fun w hx => gv_move rfl (hF.t rfl)) fun a hF => ?_
    refine sg hF rfl rfl rfl rfl (fun w hx => gv_move rfl (hF.t rfl)) fun a hF => ?_
    refine sg hF rfl rfl rfl rfl (fun w hx => gv_nilCheck rfl (hF.t rfl)) fun a hF => ?_
    refine sg hF rfl rfl rfl rfl (fun w hx => gv_field (r := 0) rfl u47 rfl rfl z35 (by decide) (hF.t rfl)) fun a hF => ?_
    refine sg hF rfl rfl rfl rfl (fun w hx => gv_field (r := 1) rfl u35 rfl rfl z33 (by decide) (hF.t rfl)) fun a hF => ?_
    refine sg hF rfl rfl rfl rfl (fun w hx => gv_load rfl u33 rfl (hF.t rfl) (hx.cell (i := 1) rfl)) fun a hF => ?_
    refine sg hF rfl rfl rfl rfl (fun w hx => gv_move rfl (hF.t rfl)) fun a hF => ?_
    refine sg hF rfl rfl rfl rfl (fun w hx => gv_nilCheck rfl (hF.t rfl)) fun a hF => ?_
    refine sg hF rfl rfl rfl rfl (fun w hx => gv_field (r := 4) rfl u47 rfl rfl z22 (by decide) (hF.t rfl)) fun a hF => ?_
    refine sg hF rfl rfl rfl rfl (fun w hx => gv_load rfl u22 rfl (hF.t rfl) (hx.cell (i := 4) rfl)) fun a hF => ?_
    refine sg hF rfl rfl rfl rfl (fun w hx => gv_move rfl (hF.t rfl)) fun a hF => ?_
    refine sg hF rfl rfl rfl rfl (fun w hx => gv_nsub (n := 32) rfl (hF.t rfl) rfl (by omega) (by omega)) fun a hF => ?_
    rw [show (N + 4 - 16) + 32 - 32 = (N + 4 - 16) by omega] at hF
    refine sg hF rfl rfl rfl rfl (fun w hx => gv_sliceHi rfl u22 z5 (hF.t rfl) (hF.t rfl) (by omega)) fun a hF => ?_
    replace hS := hS.move (k := 3) rfl
    replace hS := hS.move (k := 1) rfl
    replace hS := hS.move (k := 3) rfl
    replace hS := hS.move (k := 3) rfl
    simp only [List.set_cons_zero, List.set_cons_succ, List.eraseIdx_cons_succ, List.eraseIdx_cons_zero] at hS
    refine sw_eff rfl (stp_call hF (wanted_none rfl) rfl rfl Tryd.ok46 rfl (Evs.cons (hF.t rfl) (Evs.cons (hF.t rfl) Evs.nil)) (pturn_ok (bl := B1.take (N + 4 - 16)) (nw_cons rfl (nw_cons rfl hT)) hS hL ((show SRd w00 T (.slice A1 (N + 4 - 16) c1) ((B1.take (N + 4 - 16)).map vB) by rw [List.map_take]; exact hB1.cutHi (by omega)).mono (fun e he => List.mem_cons_of_mem _ (List.mem_cons_of_mem _ he))) hil (by rw [List.length_take]; omega)) fun e w h => ?_)
    obtain ⟨x, xp, lv, okb, Bk, rfl, xo, xc, hS, hL⟩ := h
    refine ⟨_, rfl, fun a hF => ?_⟩
    have htl : (B1.take (N + 4 - 16)).length = (N + 4 - 16) := by rw [List.length_take]; omega
    rw [htl] at hF hS hL xc
    refine ⟨⟨_, hS, (nw_cons rfl (nw_cons rfl (nw_cons rfl (nw_cons rfl (nw_cons rfl hT))))), (List.mem_of_getElem? (i := 3) rfl), (List.mem_of_getElem? (i := 3) rfl), (fun e he => List.mem_cons_of_mem _ (List.mem_cons_of_mem _ (List.mem_cons_of_mem _ (List.mem_cons_of_mem _ (List.mem_cons_of_mem _ (he))))))⟩, ?_⟩
    have hRx : Rd w (ownV x (N + 4 - 16) ((N + 4 - 16) + xp.length)) ((turned kl il at1 (B1.take (N + 4 - 16))).map vB) := rd_own hS List.mem_cons_self (nw_cons rfl (nw_cons rfl (nw_cons rfl (nw_cons rfl (nw_cons rfl hT))))) xo (by rw [turned_len, htl]) xc
    refine sw_eff rfl (stp_appB (ob := some hd) (l := hl) (pad := hp) (k := 4) hF (wanted_none rfl) rfl rfl rfl u22 Tryd.ty5 rfl (by rw [hhl]; exact hF.t rfl) (hF.t rfl) hS rfl (fun h => by cases h) (by rw [hhl]; exact hdc) hRx (by rw [turned_len, htl]; omega) fun o op a w hF oo oc hS => ?_)
    obtain ⟨P, hP⟩ : ∃ P, P = hl ++ turned kl il at1 (B1.take (N + 4 - 16)) := ⟨_, rfl⟩
    have hPl : P.length = N + 4 := by rw [hP, List.length_append, turned_len, htl]; omega
    rw [← hP] at hF oo oc hS
    obtain ⟨o, rfl⟩ := own_some oo (by omega)
    have hp4 := (P.getD 4 0).toNat_lt
    refine ⟨⟨_, hS, (nw_cons rfl (nw_cons rfl (nw_cons rfl (nw_cons rfl (nw_cons rfl hT))))), (List.mem_of_getElem? (i := 3) rfl), (List.mem_of_getElem? (i := 3) rfl), (fun e he => List.mem_cons_of_mem _ (List.mem_cons_of_mem _ (List.mem_cons_of_mem _ (List.mem_cons_of_mem _ (List.mem_cons_of_mem _ (he))))))⟩, ?_⟩
    refine sw_nil ?_
    refine run_stp (by kernel_rfl) rfl (stp_gv hF (wanted_none rfl) rfl rfl (gv_assign rfl (hF.t rfl)) fun a hF => ?_)
    refine run_done (by decide) ?_
    refine tN (hKq26 _ _ ?_)
    refine wK fun Kq27 hKq27 => ?_
    refine Fw.wp_region_draw (by kernel_rfl) fun w hx => ?_
    replace hS := hS.ext hx
    clear hx
    refine run_swalk _ 0 15 [4, 13] [[4]] _ (by kernel_rfl) (by kernel_rfl) rfl hF.size ?_
    have hO := hS
    clear hS
    have hS := St.refl w
    refine sg hF rfl rfl rfl rfl (fun w hx => gv_move rfl (hF.t rfl)) fun a hF => ?_
    refine sg hF rfl rfl rfl rfl (fun w hx => gv_nilCheck rfl (hF.t rfl)) fun a hF => ?_
    refine sg hF rfl rfl rfl rfl (fun w hx => gv_field (r := 0) rfl u47 rfl rfl z35 (by decide) (hF.t rfl)) fun a hF => ?_
    refine sg hF rfl rfl rfl rfl (fun w hx => gv_move rfl (hF.t rfl)) fun a hF => ?_
    refine sw_eff rfl (stp_call hF (wanted_none rfl) rfl rfl Tryd.ok47 rfl (Evs.cons (hF.t rfl) (Evs.cons (hF.t rfl) Evs.nil)) (code_ok (hG.ext ((hO.ext (hS.toExt nw_nil)).toExt (nw_cons rfl (nw_cons rfl (nw_cons rfl (nw_cons rfl (nw_cons rfl hT))))))) ((hO.ext (hS.toExt nw_nil)).cell (k := 3) (i := 0) rfl rfl) ((hO.ext (hS.toExt nw_nil)).cell (k := 3) (i := 2) rfl rfl) (hM _ _ (hO.ext (hS.toExt nw_nil)) (nw_cons rfl (nw_cons rfl (nw_cons rfl (nw_cons rfl (nw_cons rfl hT))))) (fun e he => List.mem_cons_of_mem _ (List.mem_cons_of_mem _ (List.mem_cons_of_mem _ (List.mem_cons_of_mem _ (List.mem_cons_of_mem _ (he))))))) hml ((own_rd (w0 := w00) (ob := some o) (l := P) (List.mem_of_getElem? (i := 4) rfl) (fun h => by cases h) rfl oc) w _ (hO.ext (hS.toExt nw_nil)) (nw_cons rfl (nw_cons rfl (nw_cons rfl (nw_cons rfl (nw_cons rfl hT))))) (fun e he => he)) (by omega)) fun e w h => ?_)
    obtain ⟨cv, rfl, hcv, hx2⟩ := h
    refine ⟨_, rfl, fun a hF => ?_⟩
    replace hS := hS.ext hx2
    clear hx2
    refine ⟨hS.toExt nw_nil, ?_⟩
    refine sg hF rfl rfl rfl rfl (fun w hx => gv_move rfl (hF.t rfl)) fun a hF => ?_
    refine sg hF rfl rfl rfl rfl (fun w hx => gv_nilCheck rfl (hF.t rfl)) fun a hF => ?_
    refine sg hF rfl rfl rfl rfl (fun w hx => gv_field (r := 4) rfl u47 rfl rfl z22 (by decide) (hF.t rfl)) fun a hF => ?_
    refine sg hF rfl rfl rfl rfl (fun w hx => gv_load rfl u22 rfl (hF.t rfl) (cell_ix (j := 4) ((hO.ext hx).cell (k := 3) rfl (rfl)) (by omega))) fun a hF => ?_
    refine sg hF rfl rfl rfl rfl (fun w hx => gv_move rfl (hF.t rfl)) fun a hF => ?_
    refine sg hF rfl rfl rfl rfl (fun w hx => gv_nsub (n := 32) rfl (hF.t rfl) rfl (by omega) (by omega)) fun a hF => ?_
    rw [show (N + 4 - 16) + 32 - 32 = (N + 4 - 16) by omega] at hF
    refine sg hF rfl rfl rfl rfl (fun w hx => gv_move rfl (hF.t rfl)) fun a hF => ?_
    refine sg hF rfl rfl rfl rfl (fun w hx => gv_slice2 rfl u22 z5 (hF.t rfl) (hF.t rfl) (hF.t rfl) (by omega) (by omega)) fun a hF => ?_
    have hR3 : Rd w (cut3V A1 (N + 4 - 16) ((N + 4 - 16) + 32) c1) (((B1.take ((N + 4 - 16) + 32)).drop (N + 4 - 16)).map vB) := by
     rw [List.map_drop, List.map_take]
     exact (hB1.cut3 (by omega) (by omega) (by omega) (by omega)) w _ (hO.ext (hS.toExt nw_nil)) (nw_cons rfl (nw_cons rfl (nw_cons rfl (nw_cons rfl (nw_cons rfl hT))))) (fun e he => List.mem_cons_of_mem _ (List.mem_cons_of_mem _ (List.mem_cons_of_mem _ (List.mem_cons_of_mem _ (List.mem_cons_of_mem _ (he))))))
    refine sw_eff rfl (stp_call hF (wanted_none rfl) rfl rfl Tryd.ok51 rfl (Evs.cons (hF.t rfl) (Evs.cons (hF.t rfl) Evs.nil)) (same_ok hcv hR3 (by rw [codeF_len]; decide) (by rw [List.length_drop, List.length_take]; omega)) fun e w h => ?_)
    obtain ⟨rfl, hx2⟩ := h
    refine ⟨_, rfl, fun a hF => ?_⟩
    replace hS := hS.ext hx2
    clear hx2
    refine ⟨hS.toExt nw_nil, ?_⟩
    refine sg hF rfl rfl rfl rfl (fun w hx => gv_not rfl (hF.t rfl)) fun a hF => ?_
    rw [← decide_not] at hF
    refine sw_nil ?_
    replace hS := hO.join hS nw_nil
    simp only [List.cons_append, List.nil_append] at hS
    clear hO
    refine run_done (by decide) ?_
    refine tN (hKq27 _ _ ?_)
    refine cond_dec (hF.t rfl) (fun h153 => ?_) (fun h153 => ?_)
    ·
     refine wK fun Kq28 hKq28 => ?_
     refine wR ?_
     refine wg hF rfl rfl rfl (gv_move rfl (hF.t rfl)) fun a hF => ?_
     replace hS := hS.move (k := 4) rfl
     replace hS := hS.move (k := 1) rfl
     replace hS := hS.move (k := 3) rfl
     replace hS := hS.move (k := 3) rfl
     replace hS := hS.move (k := 4) rfl
     simp only [List.set_cons_zero, List.set_cons_succ, List.eraseIdx_cons_succ, List.eraseIdx_cons_zero] at hS
     refine wpList_stp (stp_call hF (wanted_none rfl) rfl rfl Tryd.ok50 rfl (Evs.cons (hF.t rfl) (Evs.cons (ev_const _ _) Evs.nil)) (fail_ok (c := 5) hS) fun e w h => ?_)
     obtain ⟨rfl, hS⟩ := h
     refine ⟨_, rfl, fun a hF => ?_⟩
     refine wg hF rfl rfl rfl (gv_extract rfl (hF.t rfl) rfl) fun a hF => ?_
     refine wg hF rfl rfl rfl (gv_extract rfl (hF.t rfl) rfl) fun a hF => ?_
     refine wg hF rfl rfl rfl (gv_assign rfl (hF.t rfl)) fun a hF => ?_
     refine wg hF rfl rfl rfl (gv_assign rfl (hF.t rfl)) fun a hF => ?_
     refine wN ?_
     refine tN (hKq28 _ _ ?_)
     refine wp_ret ?_
     refine then_ret ?_
     refine ret2 (fn := Tryd.f17) (t := 2) (u := 3) hF rfl rfl rfl ?_
     subst hseq
     rw [hst, step2_key (by omega) (by omega) hN, ← hP, if_pos (by exact h153)]
     refine ⟨_, rfl, Rd.nil w, .inr (.inl ⟨rfl, rfl, rfl, (by show (5 : Nat) ≠ 0; decide), (by show (5 : Nat) ≠ 4; decide), [_, _, _, _], ?_, hS.perm (List.Perm.cons _ (List.perm_append_comm (l₁ := [_, _, _, _]) (l₂ := T)))⟩)⟩
     exact (nw_cons rfl (nw_cons rfl (nw_cons rfl (nw_cons rfl nw_nil))))
    ·
     refine wp_skip ?_
     refine tN (hKq24 _ _ ?_)
     refine wK fun Kq29 hKq29 => ?_
     refine wR ?_
     refine wg hF rfl rfl rfl (gv_move rfl (hF.t rfl)) fun a hF => ?_
     refine wg hF rfl rfl rfl (gv_move rfl (hF.t rfl)) fun a hF => ?_
     refine wg hF rfl rfl rfl (gv_nilCheck rfl (hF.t rfl)) fun a hF => ?_
     refine wg hF rfl rfl rfl (gv_field (r := 4) rfl u47 rfl rfl z22 (by decide) (hF.t rfl)) fun a hF => ?_
     refine wg hF rfl rfl rfl (gv_load rfl u22 rfl (hF.t rfl) (cell_ix (j := 4) (hS.cell (k := 3) rfl (rfl)) (by omega))) fun a hF => ?_
     refine wg hF rfl rfl rfl (gv_move rfl (hF.t rfl)) fun a hF => ?_
     refine wg hF rfl rfl rfl (gv_sliceLo (lo := (N + 4 - 16) + 32) rfl u22 z5 (hF.t rfl) (hF.t rfl) (by omega)) fun a hF => ?_
     have hR3 : SRd w00 T (cutV A1 B1.length c1 ((N + 4 - 16) + 32)) ((B1.drop ((N + 4 - 16) + 32)).map vB) := by
      rw [List.map_drop]
      exact hB1.cutLo (lo := (N + 4 - 16) + 32) (by omega)
     replace hS := hS.addNil (blk 5 (([] : List UInt8).map vB ++ []))
     refine wpList_stp (stp_appB (ob := none) (l := []) (pad := []) (k := 0) hF (wanted_none rfl) rfl rfl rfl u22 Tryd.ty5 rfl (ev_const _ _) (hF.t rfl) hS rfl (fun _ => ⟨rfl, rfl⟩) (by simp) (hR3 _ _ hS (nw_cons rfl (nw_cons rfl (nw_cons rfl (nw_cons rfl (nw_cons rfl (nw_cons rfl hT)))))) (fun e he => List.mem_cons_of_mem _ (List.mem_cons_of_mem _ (List.mem_cons_of_mem _ (List.mem_cons_of_mem _ (List.mem_cons_of_mem _ (List.mem_cons_of_mem _ (he)))))))) (by simp; omega) fun g gp a w hF go gc hS => ?_)
     simp only [List.nil_append] at hF go gc hS
     refine wg hF rfl rfl rfl (gv_nilCheck rfl (hF.t rfl)) fun a hF => ?_
     refine wg hF rfl rfl rfl (gv_field (r := 4) rfl u47 rfl rfl z22 (by decide) (hF.t rfl)) fun a hF => ?_
     refine wpList_stp (stp_storeAt (4) hF (wanted_none rfl) rfl rfl z22 (hF.t rfl) (by omega) (hF.t rfl) (own_one _ _ _) hS (k := 4) rfl (by simp) fun w hS => ?_)
     refine wN ?_
     refine tN (hKq29 _ _ ?_)
     refine wK fun Kq30 hKq30 => ?_
     refine wR ?_
     refine wg hF rfl rfl rfl (gv_move rfl (hF.t rfl)) fun a hF => ?_
     refine wg hF rfl rfl rfl (gv_nilCheck rfl (hF.t rfl)) fun a hF => ?_
     refine wg hF rfl rfl rfl (gv_field (r := 5) rfl u47 rfl rfl z22 (by decide) (hF.t rfl)) fun a hF => ?_
     refine wpList_stp (stp_storeAt (5) hF (wanted_none rfl) rfl rfl z22 (hF.t rfl) (by omega) (ev_const _ _) rfl hS (k := 4) rfl (by simp) fun w hS => ?_)
     refine wN ?_
     refine tN (hKq30 _ _ ?_)
     refine wK fun Kq31 hKq31 => ?_
     refine wR ?_
     refine wg hF rfl rfl rfl (gv_move rfl (hF.t rfl)) fun a hF => ?_
     refine wg hF rfl rfl rfl (gv_indexSl (q := 4) rfl u22 z5 (hF.t rfl) rfl (by omega)) fun a hF => ?_
     refine wg hF rfl rfl rfl (gv_load rfl u5 rfl (hF.t rfl) (cell_ix (j := 4) (hS.cell (k := 5) rfl (at_map (by omega) 0)) (by omega))) fun a hF => ?_
     refine wg hF rfl rfl rfl (gv_conv_b_i rfl u5 u3 (hF.t rfl)) fun a hF => ?_
     refine wg hF rfl rfl rfl (gv_assign rfl (hF.t rfl)) fun a hF => ?_
     refine wN ?_
     refine tN (hKq31 _ _ ?_)
     refine wK fun Kq32 hKq32 => ?_
     refine wK fun Kq33 hKq33 => ?_
     refine wR ?_
     refine wg hF rfl rfl rfl (gv_move rfl (hF.t rfl)) fun a hF => ?_
     refine wg hF rfl rfl rfl (gv_lss rfl (hF.t rfl) (ev_const _ _)) fun a hF => ?_
     refine wg hF rfl rfl rfl (gv_move rfl (hF.t rfl)) fun a hF => ?_
     refine wpList_stp (stp_gvG' hF rfl rfl rfl rfl rfl (fun hg => gv_move rfl (hF.t rfl)) fun a hF => ?_)
     refine wpList_stp (stp_gvG' hF rfl rfl rfl rfl rfl (fun hg => gv_len rfl u22 ((hF.t rfl).trans (if_neg hg))) fun a hF => ?_)
     refine wpList_stp (stp_gvG' hF rfl rfl rfl rfl rfl (fun hg => gv_nsub (n := 5) rfl ((hF.t rfl).trans (if_neg hg)) rfl (by omega) (by omega)) fun a hF => ?_)
     refine wpList_stp (stp_gvG' hF rfl rfl rfl rfl rfl (fun hg => gv_move rfl (hF.t rfl)) fun a hF => ?_)
     refine wpList_stp (stp_gvG' hF rfl rfl rfl rfl rfl (fun hg => gv_sub rfl ((hF.t rfl).trans (if_neg hg)) ((hF.t rfl).trans (if_neg hg)) (by omega) (by omega)) fun a hF => ?_)
     refine wpList_stp (stp_gvG' hF rfl rfl rfl rfl rfl (fun hg => gv_lss rfl ((hF.t rfl).trans (if_neg hg)) (ev_const _ _)) fun a hF => ?_)
     refine wg hF rfl rfl rfl (gv_pickOr rfl (hF.t rfl) (ev_const _ _) (hF.t rfl)) fun a hF => ?_
     refine wN ?_
     refine tN (hKq33 _ _ ?_)
     refine cond_dec (hF.t rfl) (fun h192 => ?_) (fun h192 => ?_)
     ·
      refine wK fun Kq34 hKq34 => ?_
      refine wR ?_
      refine wg hF rfl rfl rfl (gv_move rfl (hF.t rfl)) fun a hF => ?_
      replace hS := hS.move (k := 5) rfl
      replace hS := hS.move (k := 2) rfl
      replace hS := hS.move (k := 2) rfl
      replace hS := hS.move (k := 4) rfl
      replace hS := hS.move (k := 4) rfl
      replace hS := hS.move (k := 5) rfl
      simp only [List.set_cons_zero, List.set_cons_succ, List.eraseIdx_cons_succ, List.eraseIdx_cons_zero] at hS
      refine wpList_stp (stp_call hF (wanted_none rfl) rfl rfl Tryd.ok50 rfl (Evs.cons (hF.t rfl) (Evs.cons (ev_const _ _) Evs.nil)) (fail_ok (c := 3) hS) fun e w h => ?_)
      obtain ⟨rfl, hS⟩ := h
      refine ⟨_, rfl, fun a hF => ?_⟩
      refine wg hF rfl rfl rfl (gv_extract rfl (hF.t rfl) rfl) fun a hF => ?_
      refine wg hF rfl rfl rfl (gv_extract rfl (hF.t rfl) rfl) fun a hF => ?_
      refine wg hF rfl rfl rfl (gv_assign rfl (hF.t rfl)) fun a hF => ?_
      refine wg hF rfl rfl rfl (gv_assign rfl (hF.t rfl)) fun a hF => ?_
      refine wN ?_
      refine tN (hKq34 _ _ ?_)
      refine wp_ret ?_
      refine then_ret ?_
      refine ret2 (fn := Tryd.f17) (t := 2) (u := 3) hF rfl rfl rfl ?_
      subst hseq
      rw [hst, step2_key (by omega) (by omega) hN, ← hP, if_neg (by exact h153), step4, if_pos (by omega)]
      refine ⟨_, rfl, Rd.nil w, .inr (.inl ⟨rfl, rfl, rfl, (by show (3 : Nat) ≠ 0; decide), (by show (3 : Nat) ≠ 4; decide), [_, _, _, _, _], ?_, hS.perm (List.Perm.cons _ (List.perm_append_comm (l₁ := [_, _, _, _, _]) (l₂ := T)))⟩)⟩
      exact (nw_cons rfl (nw_cons rfl (nw_cons rfl (nw_cons rfl (nw_cons rfl nw_nil)))))
     ·
      refine wp_skip ?_
      refine tN (hKq32 _ _ ?_)
      refine wK fun Kq35 hKq35 => ?_
      refine wR ?_
      refine wg hF rfl rfl rfl (gv_move rfl (hF.t rfl)) fun a hF => ?_
      refine wg hF rfl rfl rfl (gv_nilCheck rfl (hF.t rfl)) fun a hF => ?_
      refine wg hF rfl rfl rfl (gv_field (r := 0) rfl u47 rfl rfl z35 (by decide) (hF.t rfl)) fun a hF => ?_
      refine wg hF rfl rfl rfl (gv_field (r := 0) rfl u35 rfl rfl z32 (by decide) (hF.t rfl)) fun a hF => ?_
      refine wg hF rfl rfl rfl (gv_load rfl u32 rfl (hF.t rfl) (cell_ix (j := 0) (hS.cell (k := 4) rfl (rfl)) (by omega))) fun a hF => ?_
      refine wg hF rfl rfl rfl (gv_w_add (n := 1) rfl (hF.t rfl) rfl) fun a hF => ?_
      refine wg hF rfl rfl rfl (gv_nilCheck rfl (hF.t rfl)) fun a hF => ?_
      refine wg hF rfl rfl rfl (gv_field (r := 0) rfl u47 rfl rfl z35 (by decide) (hF.t rfl)) fun a hF => ?_
      refine wg hF rfl rfl rfl (gv_field (r := 0) rfl u35 rfl rfl z32 (by decide) (hF.t rfl)) fun a hF => ?_
      refine wpList_stp (stp_storeAt (0) hF (wanted_none rfl) rfl rfl z32 (hF.t rfl) (by omega) (hF.t rfl) rfl hS (k := 4) rfl (by simp) fun w hS => ?_)
      refine wN ?_
      refine tN (hKq35 _ _ ?_)
      refine wK fun Kq36 hKq36 => ?_
      refine wR ?_
      refine wg hF rfl rfl rfl (gv_move rfl (hF.t rfl)) fun a hF => ?_
      refine wg hF rfl rfl rfl (gv_nilCheck rfl (hF.t rfl)) fun a hF => ?_
      refine wg hF rfl rfl rfl (gv_field (r := 0) rfl u47 rfl rfl z35 (by decide) (hF.t rfl)) fun a hF => ?_
      refine wg hF rfl rfl rfl (gv_field (r := 3) rfl u35 rfl rfl z3 (by decide) (hF.t rfl)) fun a hF => ?_
      refine wg hF rfl rfl rfl (gv_load rfl u3 rfl (hF.t rfl) (cell_ix (j := 3) (hS.cell (k := 4) rfl (rfl)) (by omega))) fun a hF => ?_
      refine wg hF rfl rfl rfl (gv_nadd (n := 1) rfl (hF.t rfl) rfl (by omega)) fun a hF => ?_
      refine wg hF rfl rfl rfl (gv_nilCheck rfl (hF.t rfl)) fun a hF => ?_
      refine wg hF rfl rfl rfl (gv_field (r := 0) rfl u47 rfl rfl z35 (by decide) (hF.t rfl)) fun a hF => ?_
      refine wg hF rfl rfl rfl (gv_field (r := 3) rfl u35 rfl rfl z3 (by decide) (hF.t rfl)) fun a hF => ?_
      refine wpList_stp (stp_storeAt (3) hF (wanted_none rfl) rfl rfl z3 (hF.t rfl) (by omega) (hF.t rfl) rfl hS (k := 4) rfl (by simp) fun w hS => ?_)
      refine wN ?_
      refine tN (hKq36 _ _ ?_)
      refine wK fun Kq37 hKq37 => ?_
      refine wR ?_
      refine wg hF rfl rfl rfl (gv_move rfl (hF.t rfl)) fun a hF => ?_
      refine wg hF rfl rfl rfl (gv_move rfl (hF.t rfl)) fun a hF => ?_
      refine wg hF rfl rfl rfl (gv_len rfl u22 (hF.t rfl)) fun a hF => ?_
      refine wg hF rfl rfl rfl (gv_move rfl (hF.t rfl)) fun a hF => ?_
      refine wg hF rfl rfl rfl (gv_nsub rfl (hF.t rfl) (hF.t rfl) (by omega) (by omega)) fun a hF => ?_
      refine wg hF rfl rfl rfl (gv_move rfl (hF.t rfl)) fun a hF => ?_
      refine wg hF rfl rfl rfl (gv_len rfl u22 (hF.t rfl)) fun a hF => ?_
      refine wg hF rfl rfl rfl (gv_move rfl (hF.t rfl)) fun a hF => ?_
      refine wg hF rfl rfl rfl (gv_nsub rfl (hF.t rfl) (hF.t rfl) (by omega) (by omega)) fun a hF => ?_
      refine wg hF rfl rfl rfl (gv_slice3 (l := 5) rfl u22 z5 (hF.t rfl) rfl (hF.t rfl) (hF.t rfl) (by omega) (by omega) (by omega)) fun a hF => ?_
      refine wg hF rfl rfl rfl (gv_assign rfl (hF.t rfl)) fun a hF => ?_
      refine wg hF rfl rfl rfl (gv_assign rfl (ev_const _ _)) fun a hF => ?_
      refine wN ?_
      refine tN (hKq37 _ _ ?_)
      refine wp_ret ?_
      refine ret2 (fn := Tryd.f17) (t := 2) (u := 3) hF rfl rfl rfl ?_
      have hvS := (own_rd (w0 := w00) (T := [⟨true, some o, blk 5 (P.map vB ++ op)⟩]) (ob := some o) (l := P) List.mem_cons_self (fun h => by cases h) rfl oc).cut3 (l := 5) (h := P.length - (P.getD 4 0).toNat) (mx := P.length - (P.getD 4 0).toNat) (by omega) (by omega) (by omega) (by omega)
      rw [← List.map_take, ← List.map_drop] at hvS
      have hv := hvS w _ hS (nw_cons rfl (nw_cons rfl (nw_cons rfl (nw_cons rfl (nw_cons rfl (nw_cons rfl hT)))))) (fun e he => by obtain rfl := List.mem_singleton.1 he; exact (List.mem_of_getElem? (i := 5) rfl))
      replace hS := hS.move (k := 3) rfl
      replace hS := hS.move (k := 3) rfl
      replace hS := hS.move (k := 4) rfl
      replace hS := hS.move (k := 5) rfl
      replace hS := hS.move (k := 5) rfl
      simp only [List.set_cons_zero, List.set_cons_succ, List.eraseIdx_cons_succ, List.eraseIdx_cons_zero] at hS
      replace hS := hS.drop rfl
      replace hS := St.toEnd (P := [_, _, _, _]) hS
      subst hseq
      rw [hst, step2_key (by omega) (by omega) hN, ← hP, if_neg (by exact h153), step4, if_neg (by omega)]
      exact ⟨_, rfl, hv, .inr (.inr ⟨rfl, rfl, rfl, g, gp, [_], lv, okb, Bk, hvS, go, gc, (nw_cons rfl nw_nil), hL, hS⟩)⟩
end Go.Proofs.YtfhalnobaeogkaaDoor
set_option linter.unusedVariables false
set_option linter.unusedSimpArgs false
namespace Go.Proofs.YtfhalnobaeogkaaDoor
open Go Go.RowKit Go.Fw
theorem feed_grow {w00 w : World} {T : List Ent} {r n b1 o1 c : Nat} {seq : UInt32} {st mac hv bv : Value} {l ml : List UInt8} (hT : ∀ e ∈ T, e.nw = true) (hS : St w00 w (rdrE r seq st mac n (.slice (some ⟨b1, o1, none⟩) l.length c) hv false :: T)) (hl : SRd w00 T (.slice (some ⟨b1, o1, none⟩) l.length c) (l.map vB)) (hb : SRd w00 T bv (ml.map vB)) (hg : c < l.length + ml.length) (hn : l.length + ml.length ≤ 140737488355328) :
  Calls Tryd.prog 16 #[.pointer (some ⟨r, 0, none⟩), bv] w fun e w' => e = .returned (.tuple #[]) ∧ ∃ g gp, (l ++ ml).length + gp.length ≤ 9223372036854775807 ∧ St w00 w' (rdrE r seq st mac n (.slice (some ⟨g, 0, none⟩) (l ++ ml).length ((l ++ ml).length + gp.length)) hv false :: rowE (some g) (l ++ ml) gp :: T) := by
 refine calls_start 22 Tryd.func16 rfl Tryd.ntmps16 rfl fun a hF => ?_
 refine wK fun Kq1 hKq1 => ?_
 refine wR ?_
 refine wg hF rfl rfl rfl (gv_move rfl (hF.t rfl)) fun a hF => ?_
 refine wg hF rfl rfl rfl (gv_neqNil rfl u25 (hF.t rfl) (ev_const _ _)) fun a hF => ?_
 refine wg hF rfl rfl rfl (gv_move rfl (hF.t rfl)) fun a hF => ?_
 refine wpList_stp (stp_gv hF (wanted_of hF rfl rfl (rfl)) rfl rfl (gv_move rfl (hF.t rfl)) fun a hF => ?_)
 refine wpList_stp (stp_gv hF (wanted_of hF rfl rfl (rfl)) rfl rfl (gv_nilCheck rfl (hF.t rfl)) fun a hF => ?_)
 refine wpList_stp (stp_gv hF (wanted_of hF rfl rfl (rfl)) rfl rfl (gv_field (r := 6) rfl u47 rfl rfl z4 (by decide) (hF.t rfl)) fun a hF => ?_)
 refine wpList_stp (stp_gv hF (wanted_of hF rfl rfl (rfl)) rfl rfl (gv_load rfl u4 rfl (hF.t rfl) (cell_ix (j := 6) (hS.cell (k := 0) rfl (rfl)) (by omega))) fun a hF => ?_)
 refine wpList_stp (stp_gv hF (wanted_of hF rfl rfl (rfl)) rfl rfl (gv_not rfl (hF.t rfl)) fun a hF => ?_)
 refine wg hF rfl rfl rfl (gv_pickT rfl (hF.t rfl) (hF.t rfl)) fun a hF => ?_
 refine wN ?_
 refine tN (hKq1 _ _ ?_)
 refine wp_cond_true (hF.t rfl) ?_
 refine wR ?_
 refine wg hF rfl rfl rfl (gv_move rfl (hF.t rfl)) fun a hF => ?_
 refine wg hF rfl rfl rfl (gv_move rfl (hF.t rfl)) fun a hF => ?_
 refine wg hF rfl rfl rfl (gv_nilCheck rfl (hF.t rfl)) fun a hF => ?_
 refine wg hF rfl rfl rfl (gv_field (r := 4) rfl u47 rfl rfl z22 (by decide) (hF.t rfl)) fun a hF => ?_
 refine wg hF rfl rfl rfl (gv_load rfl u22 rfl (hF.t rfl) (cell_ix (j := 4) (hS.cell (k := 0) rfl (rfl)) (by omega))) fun a hF => ?_
 refine wg hF rfl rfl rfl (gv_move rfl (hF.t rfl)) fun a hF => ?_
 refine wpList_stp (stp_appGrow hF (wanted_none rfl) rfl rfl rfl u22 Tryd.ty5 rfl (hF.t rfl) (hF.t rfl) hS (hl w _ hS (nw_cons rfl hT) (fun e he => List.mem_cons_of_mem _ (he))) (hb w _ hS (nw_cons rfl hT) (fun e he => List.mem_cons_of_mem _ (he))) hg hn fun g gp a w hF gc hS => ?_)
 refine wg hF rfl rfl rfl (gv_nilCheck rfl (hF.t rfl)) fun a hF => ?_
 refine wg hF rfl rfl rfl (gv_field (r := 4) rfl u47 rfl rfl z22 (by decide) (hF.t rfl)) fun a hF => ?_
 refine wpList_stp (stp_storeAt (4) hF (wanted_none rfl) rfl rfl z22 (hF.t rfl) (by omega) (hF.t rfl) rfl hS (k := 1) rfl (by simp) fun w hS => ?_)
 refine wN ?_
 refine end0 (fn := Tryd.f16) hF rfl ?_
 replace hS := hS.move (k := 1) rfl
 simp only [List.set_cons_zero, List.set_cons_succ, List.eraseIdx_cons_succ, List.eraseIdx_cons_zero] at hS
 exact ⟨rfl, g, gp, gc, hS⟩
theorem feed_room {w00 w : World} {T : List Ent} {r n g : Nat} {seq : UInt32} {st mac hv bv : Value} {l ml : List UInt8} {pre pad : List Value} (hT : ∀ e ∈ T, e.nw = true) (hS : St w00 w (rdrE r seq st mac n (.slice (some ⟨g, pre.length, none⟩) l.length (l.length + pad.length)) hv false :: ⟨true, some g, blk 5 (pre ++ (l.map vB ++ pad))⟩ :: T)) (hb : SRd w00 T bv (ml.map vB)) (hp : 0 < ml.length) (hroom : ml.length ≤ pad.length) :
  Calls Tryd.prog 16 #[.pointer (some ⟨r, 0, none⟩), bv] w fun e w' => e = .returned (.tuple #[]) ∧ St w00 w' (rdrE r seq st mac n (.slice (some ⟨g, pre.length, none⟩) (l ++ ml).length ((l ++ ml).length + (pad.drop ml.length).length)) hv false :: ⟨true, some g, blk 5 (pre ++ ((l ++ ml).map vB ++ pad.drop ml.length))⟩ :: T) := by
 refine calls_start 22 Tryd.func16 rfl Tryd.ntmps16 rfl fun a hF => ?_
 refine wK fun Kq1 hKq1 => ?_
 refine wR ?_
 refine wg hF rfl rfl rfl (gv_move rfl (hF.t rfl)) fun a hF => ?_
 refine wg hF rfl rfl rfl (gv_neqNil rfl u25 (hF.t rfl) (ev_const _ _)) fun a hF => ?_
 refine wg hF rfl rfl rfl (gv_move rfl (hF.t rfl)) fun a hF => ?_
 refine wpList_stp (stp_gv hF (wanted_of hF rfl rfl (rfl)) rfl rfl (gv_move rfl (hF.t rfl)) fun a hF => ?_)
 refine wpList_stp (stp_gv hF (wanted_of hF rfl rfl (rfl)) rfl rfl (gv_nilCheck rfl (hF.t rfl)) fun a hF => ?_)
 refine wpList_stp (stp_gv hF (wanted_of hF rfl rfl (rfl)) rfl rfl (gv_field (r := 6) rfl u47 rfl rfl z4 (by decide) (hF.t rfl)) fun a hF => ?_)
 refine wpList_stp (stp_gv hF (wanted_of hF rfl rfl (rfl)) rfl rfl (gv_load rfl u4 rfl (hF.t rfl) (cell_ix (j := 6) (hS.cell (k := 0) rfl (rfl)) (by omega))) fun a hF => ?_)
 refine wpList_stp (stp_gv hF (wanted_of hF rfl rfl (rfl)) rfl rfl (gv_not rfl (hF.t rfl)) fun a hF => ?_)
 refine wg hF rfl rfl rfl (gv_pickT rfl (hF.t rfl) (hF.t rfl)) fun a hF => ?_
 refine wN ?_
 refine tN (hKq1 _ _ ?_)
 refine wp_cond_true (hF.t rfl) ?_
 refine wR ?_
 refine wg hF rfl rfl rfl (gv_move rfl (hF.t rfl)) fun a hF => ?_
 refine wg hF rfl rfl rfl (gv_move rfl (hF.t rfl)) fun a hF => ?_
 refine wg hF rfl rfl rfl (gv_nilCheck rfl (hF.t rfl)) fun a hF => ?_
 refine wg hF rfl rfl rfl (gv_field (r := 4) rfl u47 rfl rfl z22 (by decide) (hF.t rfl)) fun a hF => ?_
 refine wg hF rfl rfl rfl (gv_load rfl u22 rfl (hF.t rfl) (cell_ix (j := 4) (hS.cell (k := 0) rfl (rfl)) (by omega))) fun a hF => ?_
 refine wg hF rfl rfl rfl (gv_move rfl (hF.t rfl)) fun a hF => ?_
 refine wpList_stp (stp_appRoom (k := 1) hF (wanted_none rfl) rfl rfl rfl u22 Tryd.ty5 rfl (hF.t rfl) (hF.t rfl) hS rfl (hb w _ hS (nw_cons rfl (nw_cons rfl hT)) (fun e he => List.mem_cons_of_mem _ (List.mem_cons_of_mem _ (he)))) hp hroom fun a w hF hS => ?_)
 refine wg hF rfl rfl rfl (gv_nilCheck rfl (hF.t rfl)) fun a hF => ?_
 refine wg hF rfl rfl rfl (gv_field (r := 4) rfl u47 rfl rfl z22 (by decide) (hF.t rfl)) fun a hF => ?_
 refine wpList_stp (stp_storeAt (4) hF (wanted_none rfl) rfl rfl z22 (hF.t rfl) (by omega) (hF.t rfl) rfl hS (k := 0) rfl (by simp) fun w hS => ?_)
 refine wN ?_
 refine end0 (fn := Tryd.f16) hF rfl ?_
 exact ⟨rfl, hS⟩
theorem feed_dead {r : Nat} {bv : Value} {w0 : World} (h : w0.cell? ⟨r, 6, none⟩ = some (.bool true)) :
  Calls Tryd.prog 16 #[.pointer (some ⟨r, 0, none⟩), bv] w0 fun e w' => e = .returned (.tuple #[]) ∧ Ext w0 w' := by
 refine calls_start 22 Tryd.func16 rfl Tryd.ntmps16 rfl fun a hF => ?_
 refine wK fun Kq1 hKq1 => ?_
 refine wR ?_
 refine wg hF rfl rfl rfl (gv_move rfl (hF.t rfl)) fun a hF => ?_
 refine wg hF rfl rfl rfl (gv_neqNil rfl u25 (hF.t rfl) (ev_const _ _)) fun a hF => ?_
 refine wg hF rfl rfl rfl (gv_move rfl (hF.t rfl)) fun a hF => ?_
 refine wpList_stp (stp_gv hF (wanted_of hF rfl rfl (rfl)) rfl rfl (gv_move rfl (hF.t rfl)) fun a hF => ?_)
 refine wpList_stp (stp_gv hF (wanted_of hF rfl rfl (rfl)) rfl rfl (gv_nilCheck rfl (hF.t rfl)) fun a hF => ?_)
 refine wpList_stp (stp_gv hF (wanted_of hF rfl rfl (rfl)) rfl rfl (gv_field (r := 6) rfl u47 rfl rfl z4 (by decide) (hF.t rfl)) fun a hF => ?_)
 refine wpList_stp (stp_gv hF (wanted_of hF rfl rfl (rfl)) rfl rfl (gv_load rfl u4 rfl (hF.t rfl) (cell_ix h (by omega))) fun a hF => ?_)
 refine wpList_stp (stp_gv hF (wanted_of hF rfl rfl (rfl)) rfl rfl (gv_not rfl (hF.t rfl)) fun a hF => ?_)
 refine wg hF rfl rfl rfl (gv_pickT rfl (hF.t rfl) (hF.t rfl)) fun a hF => ?_
 refine wN ?_
 refine tN (hKq1 _ _ ?_)
 refine wp_cond_false (hF.t rfl) ?_
 refine wp_skip ?_
 refine end0 (fn := Tryd.f16) hF rfl ?_
 exact ⟨rfl, Ext.refl _⟩
theorem left_pos {w0 : World} {r n c : Nat} {A : Option Addr} (h4 : w0.cell? ⟨r, 4, none⟩ = some (.slice A n c)) (hn : 0 < n) :
  Calls Tryd.prog 18 #[.pointer (some ⟨r, 0, none⟩)] w0 fun e w' => e = .returned (.bool true) ∧ Ext w0 w' := by
 refine calls_start 20 Tryd.func18 rfl Tryd.ntmps18 rfl fun a hF => ?_
 refine wK fun Kq1 hKq1 => ?_
 refine wR ?_
 refine wg hF rfl rfl rfl (gv_assign rfl (ev_const _ _)) fun a hF => ?_
 refine wN ?_
 refine tN (hKq1 _ _ ?_)
 refine wK fun Kq2 hKq2 => ?_
 refine wR ?_
 refine wg hF rfl rfl rfl (gv_move rfl (hF.t rfl)) fun a hF => ?_
 refine wg hF rfl rfl rfl (gv_neqNil rfl u25 (hF.t rfl) (ev_const _ _)) fun a hF => ?_
 refine wg hF rfl rfl rfl (gv_move rfl (hF.t rfl)) fun a hF => ?_
 refine wpList_stp (stp_gv hF (wanted_of hF rfl rfl (rfl)) rfl rfl (gv_move rfl (hF.t rfl)) fun a hF => ?_)
 refine wpList_stp (stp_gv hF (wanted_of hF rfl rfl (rfl)) rfl rfl (gv_nilCheck rfl (hF.t rfl)) fun a hF => ?_)
 refine wpList_stp (stp_gv hF (wanted_of hF rfl rfl (rfl)) rfl rfl (gv_field (r := 4) rfl u47 rfl rfl z22 (by decide) (hF.t rfl)) fun a hF => ?_)
 refine wpList_stp (stp_gv hF (wanted_of hF rfl rfl (rfl)) rfl rfl (gv_load rfl u22 rfl (hF.t rfl) h4) fun a hF => ?_)
 refine wpList_stp (stp_gv hF (wanted_of hF rfl rfl (rfl)) rfl rfl (gv_len rfl u22 (hF.t rfl)) fun a hF => ?_)
 refine wpList_stp (stp_gv hF (wanted_of hF rfl rfl (rfl)) rfl rfl (gv_gtrT rfl (hF.t rfl) (ev_const _ _) (by omega)) fun a hF => ?_)
 refine wpList_stp (stp_gv hF (wanted_of hF rfl rfl (rfl)) rfl rfl (gv_move rfl (hF.t rfl)) fun a hF => ?_)
 refine wpList_stp (stp_skip hF (unwanted_of hF rfl rfl (rfl) rfl) rfl rfl fun a hF => ?_)
 refine wpList_stp (stp_skip hF (unwanted_of hF rfl rfl (rfl) rfl) rfl rfl fun a hF => ?_)
 refine wpList_stp (stp_skip hF (unwanted_of hF rfl rfl (rfl) rfl) rfl rfl fun a hF => ?_)
 refine wpList_stp (stp_skip hF (unwanted_of hF rfl rfl (rfl) rfl) rfl rfl fun a hF => ?_)
 refine wpList_stp (stp_skip hF (unwanted_of hF rfl rfl (rfl) rfl) rfl rfl fun a hF => ?_)
 refine wpList_stp (stp_gv hF (wanted_of hF rfl rfl (rfl)) rfl rfl (gv_pickT rfl (hF.t rfl) (ev_const _ _)) fun a hF => ?_)
 refine wg hF rfl rfl rfl (gv_pickT rfl (hF.t rfl) (hF.t rfl)) fun a hF => ?_
 refine wg hF rfl rfl rfl (gv_assign rfl (hF.t rfl)) fun a hF => ?_
 refine wN ?_
 refine tN (hKq2 _ _ ?_)
 refine wp_ret ?_
 refine ret1 (fn := Tryd.f18) (t := 2) hF rfl rfl ?_
 exact ⟨rfl, Ext.refl _⟩
theorem left_zero {w0 : World} {r n c n2 c2 : Nat} {A A2 : Option Addr} (h4 : w0.cell? ⟨r, 4, none⟩ = some (.slice A n c)) (h5 : w0.cell? ⟨r, 5, none⟩ = some (.slice A2 n2 c2)) (hn : n = 0) :
  Calls Tryd.prog 18 #[.pointer (some ⟨r, 0, none⟩)] w0 fun e w' => e = .returned (.bool A2.isSome) ∧ Ext w0 w' := by
 refine calls_start 20 Tryd.func18 rfl Tryd.ntmps18 rfl fun a hF => ?_
 refine wK fun Kq1 hKq1 => ?_
 refine wR ?_
 refine wg hF rfl rfl rfl (gv_assign rfl (ev_const _ _)) fun a hF => ?_
 refine wN ?_
 refine tN (hKq1 _ _ ?_)
 refine wK fun Kq2 hKq2 => ?_
 refine wR ?_
 refine wg hF rfl rfl rfl (gv_move rfl (hF.t rfl)) fun a hF => ?_
 refine wg hF rfl rfl rfl (gv_neqNil rfl u25 (hF.t rfl) (ev_const _ _)) fun a hF => ?_
 refine wg hF rfl rfl rfl (gv_move rfl (hF.t rfl)) fun a hF => ?_
 refine wpList_stp (stp_gv hF (wanted_of hF rfl rfl (rfl)) rfl rfl (gv_move rfl (hF.t rfl)) fun a hF => ?_)
 refine wpList_stp (stp_gv hF (wanted_of hF rfl rfl (rfl)) rfl rfl (gv_nilCheck rfl (hF.t rfl)) fun a hF => ?_)
 refine wpList_stp (stp_gv hF (wanted_of hF rfl rfl (rfl)) rfl rfl (gv_field (r := 4) rfl u47 rfl rfl z22 (by decide) (hF.t rfl)) fun a hF => ?_)
 refine wpList_stp (stp_gv hF (wanted_of hF rfl rfl (rfl)) rfl rfl (gv_load rfl u22 rfl (hF.t rfl) h4) fun a hF => ?_)
 refine wpList_stp (stp_gv hF (wanted_of hF rfl rfl (rfl)) rfl rfl (gv_len rfl u22 (hF.t rfl)) fun a hF => ?_)
 refine wpList_stp (stp_gv hF (wanted_of hF rfl rfl (rfl)) rfl rfl (gv_gtrF rfl (hF.t rfl) (ev_const _ _) (by omega)) fun a hF => ?_)
 refine wpList_stp (stp_gv hF (wanted_of hF rfl rfl (rfl)) rfl rfl (gv_move rfl (hF.t rfl)) fun a hF => ?_)
 refine wpList_stp (stp_gv hF (wanted_of hF rfl rfl (rfl)) rfl rfl (gv_move rfl (hF.t rfl)) fun a hF => ?_)
 refine wpList_stp (stp_gv hF (wanted_of hF rfl rfl (rfl)) rfl rfl (gv_nilCheck rfl (hF.t rfl)) fun a hF => ?_)
 refine wpList_stp (stp_gv hF (wanted_of hF rfl rfl (rfl)) rfl rfl (gv_field (r := 5) rfl u47 rfl rfl z22 (by decide) (hF.t rfl)) fun a hF => ?_)
 refine wpList_stp (stp_gv hF (wanted_of hF rfl rfl (rfl)) rfl rfl (gv_load rfl u22 rfl (hF.t rfl) h5) fun a hF => ?_)
 refine wpList_stp (stp_gv hF (wanted_of hF rfl rfl (rfl)) rfl rfl (gv_neqNilS rfl u22 (hF.t rfl) (ev_const _ _)) fun a hF => ?_)
 refine wpList_stp (stp_gv hF (wanted_of hF rfl rfl (rfl)) rfl rfl (gv_pickF rfl (hF.t rfl) (hF.t rfl)) fun a hF => ?_)
 refine wg hF rfl rfl rfl (gv_pickT rfl (hF.t rfl) (hF.t rfl)) fun a hF => ?_
 refine wg hF rfl rfl rfl (gv_assign rfl (hF.t rfl)) fun a hF => ?_
 refine wN ?_
 refine tN (hKq2 _ _ ?_)
 refine wp_ret ?_
 refine ret1 (fn := Tryd.f18) (t := 2) hF rfl rfl ?_
 exact ⟨rfl, Ext.refl _⟩
theorem hand_bad {w00 w : World} {T : List Ent} {b n : Nat} {tt : TypeId} {seq : UInt32} {st mac k1 k2 k3 : Value} {rest : List Value} {kl il ml : List UInt8} (hT : ∀ e ∈ T, e.nw = true) (hS : St w00 w (⟨true, some b, blk tt (vW seq :: st :: mac :: vI n :: rest)⟩ :: T)) (h1 : SRd w00 T k1 (kl.map vB)) (h2 : SRd w00 T k2 (il.map vB)) (h3 : SRd w00 T k3 (ml.map vB)) (l1 : kl.length = 16) (l2 : il.length = 16) (l3 : ml.length ≠ 32) :
  Calls Tryd.prog 19 #[.pointer (some ⟨b, 0, none⟩), .agg #[k1, k2, k3]] w fun e w' => e = .returned (.int .i64 2) ∧ St w00 w' (⟨true, some b, blk tt (vW seq :: st :: mac :: vI n :: rest)⟩ :: T) := by
 have hT0 := nw_cons (e := ⟨true, some b, blk tt (vW seq :: st :: mac :: vI n :: rest)⟩) rfl hT
 obtain ⟨A1, c1, rfl, _, _, _⟩ := (h1 w _ hS hT0 (fun e he => List.mem_cons_of_mem _ he)).isB
 obtain ⟨A2, c2, rfl, _, _, _⟩ := (h2 w _ hS hT0 (fun e he => List.mem_cons_of_mem _ he)).isB
 obtain ⟨A3, c3, rfl, _, _, _⟩ := (h3 w _ hS hT0 (fun e he => List.mem_cons_of_mem _ he)).isB
 clear hT0
 refine calls_start 40 Tryd.func19 rfl Tryd.ntmps19 rfl fun a hF => ?_
 refine wK fun Kq1 hKq1 => ?_
 refine wR ?_
 refine wpList_stp (stp_box hF (wanted_none rfl) rfl rfl rfl (hF.t rfl) rfl hS fun kx a w hF hS => ?_)
 refine wg hF rfl rfl rfl (gv_assign rfl (ev_const _ _)) fun a hF => ?_
 refine wN ?_
 refine tN (hKq1 _ _ ?_)
 refine wK fun Kq2 hKq2 => ?_
 refine wR ?_
 refine wg hF rfl rfl rfl (gv_field (r := 0) rfl u40 rfl rfl z22 (by decide) (hF.t rfl)) fun a hF => ?_
 refine wg hF rfl rfl rfl (gv_load rfl u22 rfl (hF.t rfl) (cell_ix (j := 0) (hS.cell (k := 0) rfl (rfl)) (by omega))) fun a hF => ?_
 refine wg hF rfl rfl rfl (gv_field (r := 1) rfl u40 rfl rfl z22 (by decide) (hF.t rfl)) fun a hF => ?_
 refine wg hF rfl rfl rfl (gv_load rfl u22 rfl (hF.t rfl) (cell_ix (j := 1) (hS.cell (k := 0) rfl (rfl)) (by omega))) fun a hF => ?_
 refine wpList_stp (stp_call hF (wanted_none rfl) rfl rfl Tryd.ok52 rfl (Evs.cons (hF.t rfl) (Evs.cons (hF.t rfl) Evs.nil)) (new_st (h1 _ _ hS (nw_cons rfl (nw_cons rfl hT)) (fun e he => List.mem_cons_of_mem _ (List.mem_cons_of_mem _ he))) (h2 _ _ hS (nw_cons rfl (nw_cons rfl hT)) (fun e he => List.mem_cons_of_mem _ (List.mem_cons_of_mem _ he))) l1 l2) fun e w h => ?_)
 obtain ⟨s, rfl, hN⟩ := h
 refine ⟨_, rfl, fun a hF => ?_⟩
 replace hS := hS.join hN (nw_cons rfl (nw_cons rfl nw_nil))
 simp only [List.cons_append, List.nil_append] at hS
 clear hN
 refine wg hF rfl rfl rfl (gv_move rfl (hF.t rfl)) fun a hF => ?_
 refine wg hF rfl rfl rfl (gv_extract rfl (hF.t rfl) rfl) fun a hF => ?_
 refine wg hF rfl rfl rfl (gv_extract rfl (hF.t rfl) rfl) fun a hF => ?_
 refine wg hF rfl rfl rfl (gv_assign rfl (hF.t rfl)) fun a hF => ?_
 refine wg hF rfl rfl rfl (gv_assign rfl (hF.t rfl)) fun a hF => ?_
 refine wN ?_
 refine tN (hKq2 _ _ ?_)
 refine wK fun Kq3 hKq3 => ?_
 refine wK fun Kq4 hKq4 => ?_
 refine wR ?_
 refine wg hF rfl rfl rfl (gv_move rfl (hF.t rfl)) fun a hF => ?_
 refine wg hF rfl rfl rfl (gv_eqlNil rfl u102 (hF.t rfl) (ev_const _ _)) fun a hF => ?_
 refine wg hF rfl rfl rfl (gv_move rfl (hF.t rfl)) fun a hF => ?_
 refine wpList_stp (stp_gv hF (wanted_of hF rfl rfl (rfl)) rfl rfl (gv_move rfl (hF.t rfl)) fun a hF => ?_)
 refine wpList_stp (stp_gv hF (wanted_of hF rfl rfl (rfl)) rfl rfl (gv_neqF rfl (hF.t rfl) (ev_const _ _) (fun h => h rfl)) fun a hF => ?_)
 refine wg hF rfl rfl rfl (gv_pickF rfl (hF.t rfl) (hF.t rfl)) fun a hF => ?_
 refine wg hF rfl rfl rfl (gv_move rfl (hF.t rfl)) fun a hF => ?_
 refine wpList_stp (stp_gv hF (wanted_of hF rfl rfl (rfl)) rfl rfl (gv_field (r := 2) rfl u40 rfl rfl z22 (by decide) (hF.t rfl)) fun a hF => ?_)
 refine wpList_stp (stp_gv hF (wanted_of hF rfl rfl (rfl)) rfl rfl (gv_load rfl u22 rfl (hF.t rfl) (cell_ix (j := 2) (hS.cell (k := 2) rfl (rfl)) (by omega))) fun a hF => ?_)
 refine wpList_stp (stp_gv hF (wanted_of hF rfl rfl (rfl)) rfl rfl (gv_len rfl u22 (hF.t rfl)) fun a hF => ?_)
 refine wpList_stp (stp_gv hF (wanted_of hF rfl rfl (rfl)) rfl rfl (gv_neqT rfl (hF.t rfl) (ev_const _ _) (by omega)) fun a hF => ?_)
 refine wg hF rfl rfl rfl (gv_pickF rfl (hF.t rfl) (hF.t rfl)) fun a hF => ?_
 refine wN ?_
 refine tN (hKq4 _ _ ?_)
 refine wp_cond_true (hF.t rfl) ?_
 refine wK fun Kq5 hKq5 => ?_
 refine wR ?_
 refine wg hF rfl rfl rfl (gv_assign rfl (ev_const _ _)) fun a hF => ?_
 refine wN ?_
 refine tN (hKq5 _ _ ?_)
 refine wp_ret ?_
 refine then_ret ?_
 refine ret1 (fn := Tryd.f19) (t := 4) hF rfl rfl ?_
 replace hS := hS.move (k := 3) rfl
 replace hS := hS.move (k := 3) rfl
 replace hS := hS.move (k := 3) rfl
 replace hS := hS.move (k := 3) rfl
 simp only [List.set_cons_zero, List.set_cons_succ, List.eraseIdx_cons_succ, List.eraseIdx_cons_zero] at hS
 exact ⟨rfl, ((hS.drop rfl).drop rfl).drop rfl⟩
end Go.Proofs.YtfhalnobaeogkaaDoor
set_option linter.unusedVariables false
set_option linter.unusedSimpArgs false
namespace Go.Proofs.YtfhalnobaeogkaaDoor
open Go Go.RowKit Go.Fw
theorem pnext_dead {r : Nat} {w0 : World} (h : w0.cell? ⟨r, 6, none⟩ = some (.bool true)) :
  Calls Tryd.prog 17 #[.pointer (some ⟨r, 0, none⟩)] w0 fun e w' => e = .returned (.tuple #[.slice none 0 0, vI 9]) ∧ Ext w0 w' := by
 refine calls_start 225 Tryd.func17 rfl Tryd.ntmps17 rfl fun a hF => ?_
 refine wK fun Kq1 hKq1 => ?_
 refine wR ?_
 refine wg hF rfl rfl rfl (gv_assign rfl (ev_const _ _)) fun a hF => ?_
 refine wg hF rfl rfl rfl (gv_assign rfl (ev_const _ _)) fun a hF => ?_
 refine wN ?_
 refine tN (hKq1 _ _ ?_)
 refine wK fun Kq2 hKq2 => ?_
 refine wK fun Kq3 hKq3 => ?_
 refine wR ?_
 refine wg hF rfl rfl rfl (gv_move rfl (hF.t rfl)) fun a hF => ?_
 refine wg hF rfl rfl rfl (gv_eqlNil rfl u25 (hF.t rfl) (ev_const _ _)) fun a hF => ?_
 refine wg hF rfl rfl rfl (gv_move rfl (hF.t rfl)) fun a hF => ?_
 refine wpList_stp (stp_gv hF (wanted_of hF rfl rfl (rfl)) rfl rfl (gv_move rfl (hF.t rfl)) fun a hF => ?_)
 refine wpList_stp (stp_gv hF (wanted_of hF rfl rfl (rfl)) rfl rfl (gv_nilCheck rfl (hF.t rfl)) fun a hF => ?_)
 refine wpList_stp (stp_gv hF (wanted_of hF rfl rfl (rfl)) rfl rfl (gv_field (r := 6) rfl u47 rfl rfl z4 (by decide) (hF.t rfl)) fun a hF => ?_)
 refine wpList_stp (stp_gv hF (wanted_of hF rfl rfl (rfl)) rfl rfl (gv_load rfl u4 rfl (hF.t rfl) (cell_ix h (by omega))) fun a hF => ?_)
 refine wg hF rfl rfl rfl (gv_pickF rfl (hF.t rfl) (hF.t rfl)) fun a hF => ?_
 refine wN ?_
 refine tN (hKq3 _ _ ?_)
 refine wp_cond_true (hF.t rfl) ?_
 refine wK fun Kq4 hKq4 => ?_
 refine wR ?_
 refine wg hF rfl rfl rfl (gv_assign rfl (ev_const _ _)) fun a hF => ?_
 refine wg hF rfl rfl rfl (gv_assign rfl (ev_const _ _)) fun a hF => ?_
 refine wN ?_
 refine tN (hKq4 _ _ ?_)
 refine wp_ret ?_
 refine then_ret ?_
 refine ret2 (fn := Tryd.f17) (t := 2) (u := 3) hF rfl rfl rfl ?_
 exact ⟨rfl, Ext.refl _⟩
abbrev gRow (og : Option Nat) (pre : List Value) (l : List UInt8) (pad : List Value) : Ent := ⟨true, og, blk 5 (pre ++ (l.map vB ++ pad))⟩
def BvP (og : Option Nat) (pre : List Value) (l : List UInt8) (pad : List Value) (bv : Value) : Prop :=
 l.length + pad.length ≤ 9223372036854775807 ∧ ((∃ g, og = some g ∧ bv = .slice (some ⟨g, pre.length, none⟩) l.length (l.length + pad.length)) ∨ (l = [] ∧ pad = [] ∧ ((∃ A, bv = .slice (some A) 0 0 ∧ ∃ g, A = ⟨g, A.off, none⟩) ∨ bv = .slice none 0 0)))
def Hd8 (hE : Ent) (og : Option Nat) (pre : List Value) (hv : Value) : Option (List UInt8) → Prop
 | none => hv = .slice none 0 0
 | some hl => hl.length = 8 ∧ ∃ b o, hv = .slice (some ⟨b, o, none⟩) 8 8 ∧ ((∃ cs, hE = ⟨true, some b, blk 5 cs⟩ ∧ o + 8 ≤ cs.length ∧ (cs.drop o).take 8 = hl.map vB) ∨ (og = some b ∧ o + 8 ≤ pre.length ∧ (pre.drop o).take 8 = hl.map vB))
theorem SRd.zero {w00 : World} {T : List Ent} {A : Option Addr} : SRd w00 T (.slice A 0 0) (([] : List UInt8).map vB) := fun w _ _ _ _ => ⟨A, 0, rfl, Nat.le_refl _, by omega, fun h => absurd h (by simp)⟩
theorem BvP.srd {w00 : World} {T : List Ent} {og : Option Nat} {pre pad : List Value} {l : List UInt8} {bv : Value} (h : BvP og pre l pad bv) (he : gRow og pre l pad ∈ T) : SRd w00 T bv (l.map vB) := by
 obtain ⟨hc, ⟨g, rfl, rfl⟩ | ⟨rfl, rfl, ⟨A, rfl, _⟩ | rfl⟩⟩ := h
 ·
  have := SRd.ent (w0 := w00) he pre.length l.length (l.length + pad.length) (by simp) (by omega) hc
  rwa [List.drop_left' rfl, List.take_left' (List.length_map ..)] at this
 ·
  exact SRd.zero
 ·
  exact SRd.zero
theorem Hd8.hdv {w00 : World} {T : List Ent} {hE : Ent} {og : Option Nat} {pre pad : List Value} {l : List UInt8} {hv : Value} {ho : Option (List UInt8)} (h : Hd8 hE og pre hv ho) (h1 : hE ∈ T) (h2 : gRow og pre l pad ∈ T) : HdV w00 T hv 8 ho := by
 cases ho with
 | none => exact h
 | some hl =>
  obtain ⟨hl8, b, o, rfl, ⟨cs, rfl, hlen, hcs⟩ | ⟨rfl, hlen, hcs⟩⟩ := h
  ·
   refine ⟨hl8, ?_⟩
   have := SRd.ent (w0 := w00) h1 o 8 8 (by omega) (Nat.le_refl _) (by omega)
   rwa [hcs] at this
  ·
   refine ⟨hl8, ?_⟩
   have := SRd.ent (w0 := w00) h2 o 8 8 (by simp; omega) (Nat.le_refl _) (by omega)
   rwa [List.drop_append_of_le_length (by omega), List.take_append_of_le_length (by rw [List.length_drop]; omega), hcs] at this
theorem Hd8.ex {hE : Ent} {og : Option Nat} {pre : List Value} {hv : Value} {ho : Option (List UInt8)} (h : Hd8 hE og pre hv ho) : ∀ hl, ho = some hl → ∃ b o, hv = .slice (some ⟨b, o, none⟩) 8 8 := by
 intro hl hh
 subst hh
 obtain ⟨_, b, o, rfl, _⟩ := h
 exact ⟨b, o, rfl⟩
inductive PSh (w00 : World) (r : Nat) : QS → List Ent → Prop
 | dead (key : Option (List UInt8 × List UInt8 × List UInt8)) (at_ sq n : Nat) (B : List UInt8) (hd : Option (List UInt8)) (st mac : Value) : PSh w00 r ⟨key, at_, sq, n, B, hd, true⟩ [rdrE r (UInt32.ofNat sq) st mac n (.slice none 0 0) (.slice none 0 0) true]
 | plain (at_ sq n : Nat) (l : List UInt8) (ho : Option (List UInt8)) (mac bv hv : Value) (hE : Ent) (og : Option Nat) (pre pad : List Value) (hnw : hE.nw = true) (hb : BvP og pre l pad bv) (hh : Hd8 hE og pre hv ho) : PSh w00 r ⟨none, at_, sq, n, l, ho, false⟩ [rdrE r (UInt32.ofNat sq) (.pointer none) mac n bv hv false, hE, gRow og pre l pad]
 | keyed (kl il ml : List UInt8) (at_ sq n : Nat) (l : List UInt8) (ho : Option (List UInt8)) (bv hv lv : Value) (s m : Nat) (oh og okb : Option Nat) (hl0 Bk : List UInt8) (hp pre pad mp : List Value) (hb : BvP og pre l pad bv) (hh : (ho = none ∧ hv = .slice none 0 0 ∧ oh = none ∧ hl0 = [] ∧ hp = []) ∨ ∃ hd, ho = some hl0 ∧ hl0.length = 16 ∧ oh = some hd ∧ hv = .slice (some ⟨hd, 0, none⟩) 16 (16 + hp.length) ∧ 16 + hp.length ≤ 9223372036854775807)
   (hil : il.length = 16) (hml : ml.length = 32) (hm : 32 + mp.length ≤ 9223372036854775807) (hL : SRd w00 [kbE okb Bk] lv ((stQ kl il at_).2.map vB)) : PSh w00 r ⟨some (kl, il, ml), at_, sq, n, l, ho, false⟩ [rdrE r (UInt32.ofNat sq) (.pointer (some ⟨s, 0, none⟩)) (.slice (some ⟨m, 0, none⟩) 32 (32 + mp.length)) n bv hv false, strE s kl il at_ lv, kbE okb Bk, rowE oh hl0 hp, gRow og pre l pad, macE m ml mp]
theorem PSh.nw {w00 : World} {r : Nat} {q : QS} {X : List Ent} (h : PSh w00 r q X) : ∀ e ∈ X, e.nw = true := by
 cases h with
 | dead => exact nw_cons rfl nw_nil
 | plain _ _ _ _ _ _ _ _ _ _ _ _ hnw => exact nw_cons rfl (nw_cons hnw (nw_cons rfl nw_nil))
 | keyed => exact nw_cons rfl (nw_cons rfl (nw_cons rfl (nw_cons rfl (nw_cons rfl (nw_cons rfl nw_nil)))))
theorem BvP.cut {og : Option Nat} {pre pad : List Value} {l : List UInt8} {A : Option Addr} {c u : Nat} (h : BvP og pre l pad (.slice A l.length c)) (hu : 0 < u) (hl : u ≤ l.length) : gRow og pre l pad = gRow og (pre ++ (l.take u).map vB) (l.drop u) pad ∧ BvP og (pre ++ (l.take u).map vB) (l.drop u) pad (cutV A l.length c u) := by
 have e : pre ++ (l.map vB ++ pad) = (pre ++ (l.take u).map vB) ++ ((l.drop u).map vB ++ pad) := by
  rw [List.append_assoc, ← List.append_assoc ((l.take u).map vB), ← List.map_append, List.take_append_drop]
 refine ⟨by unfold gRow; rw [e], ?_⟩
 obtain ⟨hc, ⟨g, rfl, hv⟩ | ⟨rfl, _, _⟩⟩ := h
 ·
  injection hv with hA _ hcc
  subst hA
  subst hcc
  have hdl : (l.drop u).length = l.length - u := List.length_drop
  refine ⟨by omega, ?_⟩
  by_cases hz : l.length + pad.length = u
  ·
   right
   refine ⟨List.length_eq_zero_iff.1 (by omega), List.length_eq_zero_iff.1 (by omega), .inl ⟨⟨g, pre.length, none⟩, ?_, g, rfl⟩⟩
   rw [cutV, if_pos hz, hz, show l.length - u = 0 by omega, Nat.sub_self]
  ·
   left
   refine ⟨g, rfl, ?_⟩
   rw [cutV, if_neg hz, Option.map_some, add_lit, hdl, List.length_append, List.length_map, List.length_take, show min u l.length = u by omega, show l.length + pad.length - u = l.length - u + pad.length by omega]
 ·
  simp at hl; omega
end Go.Proofs.YtfhalnobaeogkaaDoor
set_option linter.unusedVariables false
set_option linter.unusedSimpArgs false
namespace Go.Proofs.YtfhalnobaeogkaaDoor
open Go Go.RowKit Go.Fw
theorem BvP.own {g : Option Nat} {l : List UInt8} {gp : List Value} (go : g = none → l = [] ∧ gp = []) (gc : l.length + gp.length ≤ 9223372036854775807) : BvP g [] l gp (ownV g l.length (l.length + gp.length)) := by
 refine ⟨gc, ?_⟩
 cases g with
 | none => obtain ⟨rfl, rfl⟩ := go rfl; exact .inr ⟨rfl, rfl, .inr rfl⟩
 | some g => exact .inl ⟨g, rfl, rfl⟩
theorem pnext_g {w00 w : World} {r : Nat} {q : QS} {X T : List Ent} (hG : Glob w00) (hX : PSh w00 r q X) (hT : ∀ e ∈ T, e.nw = true) (hS : St w00 w (X ++ T)) (hbl : q.dead = false → q.B.length ≤ 100000) (hn : q.n ≤ 4611686018427387904) :
  Calls Tryd.prog 17 #[.pointer (some ⟨r, 0, none⟩)] w fun e w' => ∃ v X' Y, e = .returned (.tuple #[v, vI (nextQ q).1.2]) ∧ SRd w00 Y v ((nextQ q).1.1.map vB) ∧ PSh w00 r (nextQ q).2 X' ∧ (∀ e ∈ Y, e.nw = true) ∧ St w00 w' (X' ++ (T ++ Y)) := by
 have hsp := nextQ_spec q
 cases hX with
 | dead key at_ sq n B hd st mac =>
  refine (pnext_dead (hS.cell (k := 0) (i := 6) rfl rfl)).mono fun e w' ⟨he, hx⟩ => ?_
  refine ⟨_, _, [], he, SRd.nil, PSh.dead key at_ sq n B hd st mac, (fun e he => by cases he), ?_⟩
  rw [List.append_nil]
  exact hS.ext hx
 | plain at_ sq n l ho mac bv hv hE og pre pad hnw hb hh =>
  have hS0 : St w00 w (rdrE r (UInt32.ofNat sq) (.pointer none) mac n bv hv false :: (hE :: gRow og pre l pad :: T)) := hS
  have hTn : ∀ e ∈ (hE :: gRow og pre l pad :: T), e.nw = true := nw_cons hnw (nw_cons rfl hT)
  refine (pnext0_ok (at_ := at_) (sq := sq) hTn hS0 (hb.srd (List.mem_cons_of_mem _ List.mem_cons_self)) (hh.hdv List.mem_cons_self (List.mem_cons_of_mem _ List.mem_cons_self)) hh.ex (hbl rfl) hn).mono fun e w' h => ?_
  obtain ⟨v, he, hv', hcase⟩ := h.ex
  have hw := fun h4 => nextQ_wait (s := ⟨none, at_, sq, n, l, ho, false⟩) rfl h4
  generalize nextQ ⟨none, at_, sq, n, l, ho, false⟩ = Q at *
  obtain ⟨⟨p, cd⟩, ⟨k', a', s', n', B', h', d'⟩⟩ := Q
  obtain ⟨e1, e2, e3, e4, e5, e6, e7⟩ := hsp
  simp only at *
  subst e1
  rcases hcase with ⟨h4, rfl, hp0, hd, bv', hv2, hcut, hb', hh', hS'⟩ | ⟨hd, rfl, hp0, h0, h4, Y, hY, hS'⟩ | ⟨h0, hd, hhd, g, gp, Y, hvS, go, gc, hY, hS'⟩
  ·
   subst h4 hp0
   obtain ⟨w1, w2⟩ := hw rfl
   rcases hcut with ⟨hc, rfl, rfl⟩ | ⟨hc, hle, A, c, rfl, hc8, rfl, rfl⟩
   ·
    have e := w1 hc
    injection e with _ ea es en eB eh ed
    subst ea es en eB eh ed
    exact ⟨_, _, [], he, SRd.nil, PSh.plain a' s' n' B' h' mac bv' hv2 hE og pre pad hnw hb hh, (fun e he => by cases he), by rw [List.append_nil]; exact hS'⟩
   ·
    have e := w2 hc hle
    injection e with _ ea es en eB eh ed
    subst hc
    have ea' : a' = at_ := ea
    have eB' : B' = l.drop 8 := eB
    have eh' : h' = some (l.take 8) := eh
    subst ea' es en eB' eh' ed
    obtain ⟨c1, c2⟩ := hb.cut (u := 8) (by decide) hle
    have hl8 : (l.take 8).length = 8 := by rw [List.length_take]; omega
    have hA : ∃ b, A = some ⟨b, pre.length, none⟩ ∧ og = some b := by
     obtain ⟨_, ⟨g, hg, hv3⟩ | ⟨h3, _⟩⟩ := hb
     ·
      injection hv3 with hA _ _
      exact ⟨g, hA, hg⟩
     ·
      subst h3; exact absurd hle (by decide)
    obtain ⟨b, rfl, rfl⟩ := hA
    refine ⟨_, _, [], he, SRd.nil, PSh.plain _ _ _ _ _ mac _ _ hE (some b) _ pad hnw c2 ⟨hl8, b, pre.length, rfl, .inr ⟨rfl, by rw [List.length_append, List.length_map, hl8]; exact Nat.le_refl _, by rw [List.drop_left' rfl, List.take_of_length_le (by rw [List.length_map]; omega)]⟩⟩, (fun e he => by cases he), ?_⟩
    rw [List.append_nil]
    show St w00 w' (_ :: hE :: gRow _ _ _ _ :: T)
    rw [← c1]
    exact hS'
  ·
   subst hd hp0
   obtain ⟨es, en⟩ := e5 h0
   subst es en
   exact ⟨_, _, Y, he, SRd.nil, PSh.dead _ _ _ _ _ _ _ _, hY, (hS'.drop2 hnw).drop2 rfl⟩
  ·
   subst h0
   obtain ⟨es, en, _, _⟩ := e4 rfl
   subst es en hd hhd
   have hseq : UInt32.ofNat sq + 1 = UInt32.ofNat (sq + 1) := by
    apply UInt32.toNat_inj.1
    rw [UInt32.toNat_add, UInt32.toNat_ofNat', UInt32.toNat_ofNat']
    show (sq % 2 ^ 32 + 1) % 2 ^ 32 = _
    omega
   rw [hseq] at hS'
   refine ⟨v, _, Y, he, hvS, PSh.plain _ _ _ _ none mac _ _ hE g [] gp hnw (BvP.own go gc) rfl, hY, ?_⟩
   have h1 := (hS'.move (k := 2) rfl).move (k := 1) rfl
   simp only [List.eraseIdx_cons_succ, List.eraseIdx_cons_zero, List.cons_append] at h1
   have h2 := h1.move (k := 3) rfl
   simp only [List.eraseIdx_cons_succ, List.eraseIdx_cons_zero] at h2
   exact h2.drop rfl
 | keyed kl il ml at_ sq n l ho bv hv lv s m oh og okb hl0 Bk hp pre pad mp hb hh hil hml hm hL =>
  have hS0 : St w00 w (rdrE r (UInt32.ofNat sq) (.pointer (some ⟨s, 0, none⟩)) (.slice (some ⟨m, 0, none⟩) 32 (32 + mp.length)) n bv hv false :: strE s kl il at_ lv :: kbE okb Bk :: rowE oh hl0 hp :: (gRow og pre l pad :: macE m ml mp :: T)) := hS
  have hTn : ∀ e ∈ (gRow og pre l pad :: macE m ml mp :: T), e.nw = true := nw_cons rfl (nw_cons rfl hT)
  have hM : SRd w00 (gRow og pre l pad :: macE m ml mp :: T) (.slice (some ⟨m, 0, none⟩) 32 (32 + mp.length)) (ml.map vB) := own_rd (ob := some m) (List.mem_cons_of_mem _ List.mem_cons_self) (fun h => by cases h) hml hm
  refine (pnext1_ok (at_ := at_) (sq := sq) hG hTn hS0 hL (hb.srd List.mem_cons_self) hh hil hM hml rfl (hbl rfl) hn).mono fun e w' h => ?_
  obtain ⟨v, he, hv', hcase⟩ := h.ex
  have hw := fun h4 => nextQ_wait (s := ⟨some (kl, il, ml), at_, sq, n, l, ho, false⟩) rfl h4
  generalize nextQ ⟨some (kl, il, ml), at_, sq, n, l, ho, false⟩ = Q at *
  obtain ⟨⟨p, cd⟩, ⟨k', a', s', n', B', h', d'⟩⟩ := Q
  obtain ⟨e1, e2, e3, e4, e5, e6, e7⟩ := hsp
  simp only at *
  subst e1
  rcases hcase with ⟨h4, rfl, hp0, hd, bv', hv2, oh', hl', hp', lv', okb', Bk', hcut, hb', hh', hL', hS'⟩ | ⟨hd, rfl, hp0, h0, h4, Y, hY, hS'⟩ | ⟨h0, hd, hhd, g, gp, Y, lv', okb', Bk', hvS, go, gc, hY, hL', hS'⟩
  ·
   subst h4 hp0
   obtain ⟨w1, w2⟩ := hw rfl
   rcases hcut with ⟨hc, rfl⟩ | ⟨hc, hle, A, c, rfl, hc16, rfl⟩
   ·
    have e := w1 hc
    injection e with _ ea es en eB eh ed
    subst ea es en eB ed
    exact ⟨_, _, [], he, SRd.nil, PSh.keyed kl il ml a' s' n' B' h' bv' hv2 lv' s m oh' og okb' hl' Bk' hp' pre pad mp hb hh' hil hml hm hL', (fun e he => by cases he), by rw [List.append_nil]; exact hS'⟩
   ·
    have e := w2 hc hle
    injection e with _ ea es en eB eh ed
    have eB' : B' = l.drop 16 := eB
    subst es en eB' ed
    obtain ⟨c1, c2⟩ := hb.cut (u := 16) (by decide) hle
    refine ⟨_, _, [], he, SRd.nil, PSh.keyed kl il ml a' _ _ _ h' _ hv2 lv' s m oh' og okb' hl' Bk' hp' _ pad mp c2 hh' hil hml hm hL', (fun e he => by cases he), ?_⟩
    rw [List.append_nil]
    show St w00 w' (_ :: _ :: _ :: _ :: gRow _ _ _ _ :: macE m ml mp :: T)
    rw [← c1]
    exact hS'
  ·
   subst hd hp0
   obtain ⟨es, en⟩ := e5 h0
   subst es en
   exact ⟨_, _, Y, he, SRd.nil, PSh.dead _ _ _ _ _ _ _ _, hY, (hS'.drop2 rfl).drop2 rfl⟩
  ·
   subst h0
   obtain ⟨es, en, _, _⟩ := e4 rfl
   subst es en hd hhd
   have hseq : UInt32.ofNat sq + 1 = UInt32.ofNat (sq + 1) := by
    apply UInt32.toNat_inj.1
    rw [UInt32.toNat_add, UInt32.toNat_ofNat', UInt32.toNat_ofNat']
    show (sq % 2 ^ 32 + 1) % 2 ^ 32 = _
    omega
   rw [hseq] at hS'
   refine ⟨v, _, Y, he, hvS, PSh.keyed kl il ml a' _ _ B' none _ _ lv' s m none g okb' [] Bk' [] [] gp mp (BvP.own go gc) (.inl ⟨rfl, rfl, rfl, rfl, rfl⟩) hil hml hm hL', hY, ?_⟩
   replace hS := hS'.addNil (blk 5 (([] : List UInt8).map vB ++ []))
   simp only [List.cons_append] at hS
   replace hS := hS.move (k := 6) rfl
   replace hS := hS.move (k := 5) rfl
   replace hS := hS.move (k := 2) rfl
   replace hS := hS.move (k := 5) rfl
   replace hS := hS.move (k := 5) rfl
   replace hS := hS.move (k := 5) rfl
   replace hS := hS.move (k := 6) rfl
   simp only [List.set_cons_zero, List.set_cons_succ, List.eraseIdx_cons_succ, List.eraseIdx_cons_zero] at hS
   exact hS.drop rfl
end Go.Proofs.YtfhalnobaeogkaaDoor
set_option linter.unusedVariables false
set_option linter.unusedSimpArgs false
namespace Go.Proofs.YtfhalnobaeogkaaDoor
open Go Go.RowKit Go.Fw
theorem Hd8.grow {hE : Ent} {og : Option Nat} {pre pad : List Value} {l : List UInt8} {hv : Value} {ho : Option (List UInt8)} {og' : Option Nat} {pre' : List Value} (h : Hd8 hE og pre hv ho) : Hd8 hE og' pre' hv ho ∨ Hd8 (gRow og pre l pad) og' pre' hv ho := by
 cases ho with
 | none => exact .inl h
 | some hl =>
  obtain ⟨h8, b, o, rfl, ⟨cs, rfl, h1, h2⟩ | ⟨rfl, h1, h2⟩⟩ := h
  ·
   exact .inl ⟨h8, b, o, rfl, .inl ⟨cs, rfl, h1, h2⟩⟩
  ·
   exact .inr ⟨h8, b, o, rfl, .inl ⟨_, rfl, by simp; omega, by rw [List.drop_append_of_le_length (by omega), List.take_append_of_le_length (by rw [List.length_drop]; omega)]; exact h2⟩⟩
theorem addr_eq {A : Addr} {g : Nat} (h : A = ⟨g, A.off, none⟩) : ∃ g o, A = ⟨g, o, none⟩ := ⟨g, A.off, h⟩
theorem pfeed_g {w00 w : World} {r : Nat} {q : QS} {X T : List Ent} {bv : Value} {ml : List UInt8} (hX : PSh w00 r q X) (hT : ∀ e ∈ T, e.nw = true) (hS : St w00 w (X ++ T)) (hb2 : SRd w00 T bv (ml.map vB)) (hp : 0 < ml.length) (hn : q.dead = false → q.B.length + ml.length ≤ 1099511627776) :
  Calls Tryd.prog 16 #[.pointer (some ⟨r, 0, none⟩), bv] w fun e w' => e = .returned (.tuple #[]) ∧ ∃ X', PSh w00 r { q with B := q.B ++ ml } X' ∧ St w00 w' (X' ++ T) := by
 cases hX with
 | dead key at_ sq n B hd st mac =>
  exact (feed_dead (hS.cell (k := 0) (i := 6) rfl rfl)).mono fun e w' ⟨he, hx⟩ => ⟨he, _, PSh.dead key at_ sq n (B ++ ml) hd st mac, hS.ext hx⟩
 | plain at_ sq n l ho mac bv0 hv hE og pre pad hnw hb hh =>
  have hS0 : St w00 w (rdrE r (UInt32.ofNat sq) (.pointer none) mac n bv0 hv false :: (hE :: gRow og pre l pad :: T)) := hS
  have hTn : ∀ e ∈ (hE :: gRow og pre l pad :: T), e.nw = true := nw_cons hnw (nw_cons rfl hT)
  have hb3 : SRd w00 (hE :: gRow og pre l pad :: T) bv (ml.map vB) := hb2.mono fun e he => List.mem_cons_of_mem _ (List.mem_cons_of_mem _ he)
  have hnl : l.length + ml.length ≤ 1099511627776 := hn rfl
  have fin : ∀ {w' : World} {g : Nat} {gp : List Value}, (l ++ ml).length + gp.length ≤ 9223372036854775807 → St w00 w' (rdrE r (UInt32.ofNat sq) (.pointer none) mac n (.slice (some ⟨g, 0, none⟩) (l ++ ml).length ((l ++ ml).length + gp.length)) hv false :: rowE (some g) (l ++ ml) gp :: hE :: gRow og pre l pad :: T) → ∃ X', PSh w00 r ⟨none, at_, sq, n, l ++ ml, ho, false⟩ X' ∧ St w00 w' (X' ++ T) := by
   intro w' g gp gc hS'
   rcases hh.grow (l := l) (pad := pad) (og' := some g) (pre' := []) with h1 | h1
   ·
    refine ⟨_, PSh.plain at_ sq n (l ++ ml) ho mac _ hv hE (some g) [] gp hnw (BvP.own (g := some g) (fun h => by cases h) gc) h1, ?_⟩
    have h2 := hS'.move (k := 3) rfl
    simp only [List.eraseIdx_cons_succ, List.eraseIdx_cons_zero] at h2
    exact (h2.drop rfl).perm (List.Perm.cons _ (List.Perm.swap _ _ _))
   ·
    refine ⟨_, PSh.plain at_ sq n (l ++ ml) ho mac _ hv (gRow og pre l pad) (some g) [] gp rfl (BvP.own (g := some g) (fun h => by cases h) gc) h1, ?_⟩
    have h2 := hS'.move (k := 2) rfl
    simp only [List.eraseIdx_cons_succ, List.eraseIdx_cons_zero] at h2
    exact (h2.drop hnw).perm (List.Perm.cons _ (List.Perm.swap _ _ _))
  obtain ⟨hcap, ⟨g, rfl, rfl⟩ | ⟨rfl, rfl, ⟨A, rfl, g0, hA⟩ | rfl⟩⟩ := hb
  ·
   by_cases hroom : ml.length ≤ pad.length
   ·
    have hS1 : St w00 w (rdrE r (UInt32.ofNat sq) (.pointer none) mac n (.slice (some ⟨g, pre.length, none⟩) l.length (l.length + pad.length)) hv false :: gRow (some g) pre l pad :: hE :: T) := hS0.perm (List.Perm.cons _ (List.Perm.swap _ _ _))
    refine (feed_room (nw_cons hnw hT) hS1 (hb2.mono fun e he => List.mem_cons_of_mem _ he) hp hroom).mono fun e w' ⟨he, hS'⟩ => ⟨he, _, PSh.plain at_ sq n (l ++ ml) ho mac _ hv hE (some g) pre (pad.drop ml.length) hnw ⟨by rw [List.length_append, List.length_drop]; omega, .inl ⟨g, rfl, rfl⟩⟩ ?_, hS'.perm (List.Perm.cons _ (List.Perm.swap _ _ _))⟩
    exact hh
   ·
    have hl1 : SRd w00 (hE :: gRow (some g) pre l pad :: T) (.slice (some ⟨g, pre.length, none⟩) l.length (l.length + pad.length)) (l.map vB) := BvP.srd ⟨hcap, .inl ⟨g, rfl, rfl⟩⟩ (List.mem_cons_of_mem _ List.mem_cons_self)
    refine (feed_grow hTn hS0 hl1 hb3 (by omega) (by omega)).mono fun e w' ⟨he, g', gp, gc, hS'⟩ => ⟨he, fin gc hS'⟩
  ·
   obtain ⟨g1, o1, rfl⟩ := addr_eq hA
   refine (feed_grow (l := []) hTn hS0 SRd.zero hb3 (by simpa using hp) (Nat.le_trans hnl (by decide))).mono fun e w' ⟨he, g', gp, gc, hS'⟩ => ⟨he, fin gc hS'⟩
  ·
   refine (feed0_ok hTn hS0 hb3 (by simpa using hnl)).mono fun e w' ⟨he, o, op, ho1, hc1, hS'⟩ => ?_
   obtain ⟨o, rfl⟩ := own_some ho1 hp
   exact ⟨he, fin (g := o) (gp := op) hc1 (hS'.perm (List.Perm.swap _ _ _))⟩
 | keyed kl il ml2 at_ sq n l ho bv0 hv lv s m oh og okb hl0 Bk hp2 pre pad mp hb hh hil hml hm hL =>
  have hS0 : St w00 w (rdrE r (UInt32.ofNat sq) (.pointer (some ⟨s, 0, none⟩)) (.slice (some ⟨m, 0, none⟩) 32 (32 + mp.length)) n bv0 hv false :: (strE s kl il at_ lv :: kbE okb Bk :: rowE oh hl0 hp2 :: gRow og pre l pad :: macE m ml2 mp :: T)) := hS
  have hTn : ∀ e ∈ (strE s kl il at_ lv :: kbE okb Bk :: rowE oh hl0 hp2 :: gRow og pre l pad :: macE m ml2 mp :: T), e.nw = true := nw_cons rfl (nw_cons rfl (nw_cons rfl (nw_cons rfl (nw_cons rfl hT))))
  have hb3 : SRd w00 (strE s kl il at_ lv :: kbE okb Bk :: rowE oh hl0 hp2 :: gRow og pre l pad :: macE m ml2 mp :: T) bv (ml.map vB) := hb2.mono fun e he => List.mem_cons_of_mem _ (List.mem_cons_of_mem _ (List.mem_cons_of_mem _ (List.mem_cons_of_mem _ (List.mem_cons_of_mem _ he))))
  have hnl : l.length + ml.length ≤ 1099511627776 := hn rfl
  have fin : ∀ {w' : World} {g : Nat} {gp : List Value}, (l ++ ml).length + gp.length ≤ 9223372036854775807 → St w00 w' (rdrE r (UInt32.ofNat sq) (.pointer (some ⟨s, 0, none⟩)) (.slice (some ⟨m, 0, none⟩) 32 (32 + mp.length)) n (.slice (some ⟨g, 0, none⟩) (l ++ ml).length ((l ++ ml).length + gp.length)) hv false :: rowE (some g) (l ++ ml) gp :: strE s kl il at_ lv :: kbE okb Bk :: rowE oh hl0 hp2 :: gRow og pre l pad :: macE m ml2 mp :: T) → ∃ X', PSh w00 r ⟨some (kl, il, ml2), at_, sq, n, l ++ ml, ho, false⟩ X' ∧ St w00 w' (X' ++ T) := by
   intro w' g gp gc hS
   refine ⟨_, PSh.keyed kl il ml2 at_ sq n (l ++ ml) ho _ hv lv s m oh (some g) okb hl0 Bk hp2 [] gp mp (BvP.own (g := some g) (fun h => by cases h) gc) hh hil hml hm hL, ?_⟩
   replace hS := hS.move (k := 6) rfl
   replace hS := hS.move (k := 2) rfl
   replace hS := hS.move (k := 5) rfl
   replace hS := hS.move (k := 5) rfl
   replace hS := hS.move (k := 5) rfl
   replace hS := hS.move (k := 5) rfl
   replace hS := hS.move (k := 6) rfl
   simp only [List.set_cons_zero, List.set_cons_succ, List.eraseIdx_cons_succ, List.eraseIdx_cons_zero] at hS
   exact hS.drop rfl
  obtain ⟨hcap, ⟨g, rfl, rfl⟩ | ⟨rfl, rfl, ⟨A, rfl, g0, hA⟩ | rfl⟩⟩ := hb
  ·
   by_cases hroom : ml.length ≤ pad.length
   ·
    have hS := hS0
    replace hS := hS.move (k := 5) rfl
    replace hS := hS.move (k := 4) rfl
    replace hS := hS.move (k := 4) rfl
    replace hS := hS.move (k := 4) rfl
    replace hS := hS.move (k := 5) rfl
    replace hS := hS.move (k := 5) rfl
    simp only [List.set_cons_zero, List.set_cons_succ, List.eraseIdx_cons_succ, List.eraseIdx_cons_zero] at hS
    refine (feed_room (nw_cons rfl (nw_cons rfl (nw_cons rfl (nw_cons rfl hT)))) hS (hb2.mono fun e he => List.mem_cons_of_mem _ (List.mem_cons_of_mem _ (List.mem_cons_of_mem _ (List.mem_cons_of_mem _ he)))) hp hroom).mono fun e w' ⟨he, hS⟩ => ⟨he, _, PSh.keyed kl il ml2 at_ sq n (l ++ ml) ho _ hv lv s m oh (some g) okb hl0 Bk hp2 pre (pad.drop ml.length) mp ⟨by rw [List.length_append, List.length_drop]; omega, .inl ⟨g, rfl, rfl⟩⟩ hh hil hml hm hL, ?_⟩
    replace hS := hS.move (k := 5) rfl
    replace hS := hS.move (k := 2) rfl
    replace hS := hS.move (k := 5) rfl
    replace hS := hS.move (k := 5) rfl
    replace hS := hS.move (k := 5) rfl
    replace hS := hS.move (k := 5) rfl
    simp only [List.set_cons_zero, List.set_cons_succ, List.eraseIdx_cons_succ, List.eraseIdx_cons_zero] at hS
    exact hS
   ·
    have hl1 : SRd w00 (strE s kl il at_ lv :: kbE okb Bk :: rowE oh hl0 hp2 :: gRow (some g) pre l pad :: macE m ml2 mp :: T) (.slice (some ⟨g, pre.length, none⟩) l.length (l.length + pad.length)) (l.map vB) := BvP.srd ⟨hcap, .inl ⟨g, rfl, rfl⟩⟩ (List.mem_of_getElem? (i := 3) rfl)
    refine (feed_grow hTn hS0 hl1 hb3 (by omega) (by omega)).mono fun e w' ⟨he, g', gp, gc, hS'⟩ => ⟨he, fin gc hS'⟩
  ·
   obtain ⟨g1, o1, rfl⟩ := addr_eq hA
   refine (feed_grow (l := []) hTn hS0 SRd.zero hb3 (by simpa using hp) (Nat.le_trans hnl (by decide))).mono fun e w' ⟨he, g', gp, gc, hS'⟩ => ⟨he, fin gc hS'⟩
  ·
   refine (feed0_ok hTn hS0 hb3 (by simpa using hnl)).mono fun e w' ⟨he, o, op, ho1, hc1, hS'⟩ => ?_
   obtain ⟨o, rfl⟩ := own_some ho1 hp
   exact ⟨he, fin (g := o) (gp := op) hc1 (hS'.perm (List.Perm.swap _ _ _))⟩
end Go.Proofs.YtfhalnobaeogkaaDoor
set_option linter.unusedVariables false
set_option linter.unusedSimpArgs false
namespace Go.Proofs.YtfhalnobaeogkaaDoor
open Go Go.RowKit Go.Fw
def leftQ (q : QS) : Bool := if q.dead = true then false else decide (0 < q.B.length) || q.hd.isSome
theorem BvP.form {og : Option Nat} {pre pad : List Value} {l : List UInt8} {bv : Value} (h : BvP og pre l pad bv) : ∃ A c, bv = .slice A l.length c := by
 obtain ⟨_, ⟨g, _, rfl⟩ | ⟨rfl, _, ⟨A, rfl, _⟩ | rfl⟩⟩ := h
 ·
  exact ⟨_, _, rfl⟩
 ·
  exact ⟨_, _, rfl⟩
 ·
  exact ⟨_, _, rfl⟩
theorem pleft_g {w00 w : World} {r : Nat} {q : QS} {X T : List Ent} (hX : PSh w00 r q X) (hS : St w00 w (X ++ T)) : Calls Tryd.prog 18 #[.pointer (some ⟨r, 0, none⟩)] w fun e w' => e = .returned (.bool (leftQ q)) ∧ Ext w w' := by
 have go : ∀ {l : List UInt8} {ho : Option (List UInt8)} {bv hv : Value}, w.cell? ⟨r, 4, none⟩ = some bv → w.cell? ⟨r, 5, none⟩ = some hv → (∃ A c, bv = .slice A l.length c) → (∃ A n c, hv = .slice A n c ∧ A.isSome = ho.isSome) → Calls Tryd.prog 18 #[.pointer (some ⟨r, 0, none⟩)] w fun e w' => e = .returned (.bool (decide (0 < l.length) || ho.isSome)) ∧ Ext w w' := by
  intro l ho bv hv h4 h5 ⟨A, c, hb⟩ ⟨A2, n2, c2, hh, hi⟩
  subst hb hh
  by_cases hl : 0 < l.length
  ·
   rw [decide_eq_true hl, Bool.true_or]
   exact left_pos h4 hl
  ·
   rw [decide_eq_false hl, Bool.false_or, ← hi]
   exact left_zero h4 h5 (by omega)
 cases hX with
 | dead key at_ sq n B hd st mac => exact go (l := []) (ho := none) (hS.cell (k := 0) (i := 4) rfl rfl) (hS.cell (k := 0) (i := 5) rfl rfl) ⟨_, _, rfl⟩ ⟨_, _, _, rfl, rfl⟩
 | plain at_ sq n l ho mac bv hv hE og pre pad hnw hb hh =>
  refine go (hS.cell (k := 0) (i := 4) rfl rfl) (hS.cell (k := 0) (i := 5) rfl rfl) hb.form ?_
  cases ho with
  | none => exact ⟨_, _, _, hh, rfl⟩
  | some hl => obtain ⟨_, b, o, hv2, _⟩ := hh; exact ⟨_, _, _, hv2, rfl⟩
 | keyed kl il ml at_ sq n l ho bv hv lv s m oh og okb hl0 Bk hp pre pad mp hb hh hil hml hm hL =>
  refine go (hS.cell (k := 0) (i := 4) rfl rfl) (hS.cell (k := 0) (i := 5) rfl rfl) hb.form ?_
  rcases hh with ⟨rfl, rfl, _⟩ | ⟨hd, rfl, _, _, rfl, _⟩
  ·
   exact ⟨_, _, _, rfl, rfl⟩
  ·
   exact ⟨_, _, _, rfl, rfl⟩
theorem ptake_g {w00 w : World} {r : Nat} {q : QS} {X T : List Ent} {k1 k2 k3 : Value} {kl il ml : List UInt8} (hX : PSh w00 r q X) (hT : ∀ e ∈ T, e.nw = true) (hS : St w00 w (X ++ T)) (hq : leftQ q = false) (h1 : SRd w00 T k1 (kl.map vB)) (h2 : SRd w00 T k2 (il.map vB)) (h3 : SRd w00 T k3 (ml.map vB)) (l1 : kl.length = 16) (l2 : il.length = 16) (l3 : ml.length = 32) :
  Calls Tryd.prog 19 #[.pointer (some ⟨r, 0, none⟩), .agg #[k1, k2, k3]] w fun e w' => e = .returned (.int .i64 0) ∧ ∃ X', PSh w00 r { q with key := some (kl, il, ml), at_ := 0, n := 0 } X' ∧ St w00 w' (X' ++ T) := by
 cases hX with
 | dead key at_ sq n B hd st mac =>
  refine (hand_ok hT hS h1 h2 h3 l1 l2 l3).mono fun e w' ⟨he, s, m, mp, hm, hS'⟩ => ⟨he, _, PSh.dead _ 0 sq 0 B hd _ _, ((hS'.drop2 rfl).drop2 rfl).drop2 rfl⟩
 | plain at_ sq n l ho mac bv hv hE og pre pad hnw hb hh =>
  have hz : l = [] ∧ ho = none := by
   simp only [leftQ, Bool.false_eq_true, if_false, Bool.or_eq_false_iff, decide_eq_false_iff_not, Nat.not_lt, Nat.le_zero] at hq
   exact ⟨List.length_eq_zero_iff.1 hq.1, by cases ho with | none => rfl | some x => cases hq.2⟩
  obtain ⟨rfl, rfl⟩ := hz
  have hsub : ∀ e ∈ T, e ∈ (hE :: gRow og pre [] pad :: T) := fun e he => List.mem_cons_of_mem _ (List.mem_cons_of_mem _ he)
  refine (hand_ok (T := hE :: gRow og pre [] pad :: T) (nw_cons hnw (nw_cons rfl hT)) hS (h1.mono hsub) (h2.mono hsub) (h3.mono hsub) l1 l2 l3).mono fun e w' ⟨he, s, m, mp, hm, hS'⟩ => ?_
  refine ⟨he, _, PSh.keyed kl il ml 0 sq 0 [] none bv hv (.slice none 0 0) s m none og none [] [] [] pre pad mp hb (.inl ⟨rfl, hh, rfl, rfl, rfl⟩) l2 l3 hm nil_left, ?_⟩
  replace hS := hS'.addNil (blk 5 (([] : List UInt8).map vB ++ []))
  replace hS := hS.move (k := 2) rfl
  replace hS := hS.move (k := 6) rfl
  replace hS := hS.move (k := 2) rfl
  replace hS := hS.move (k := 5) rfl
  replace hS := hS.move (k := 5) rfl
  replace hS := hS.move (k := 5) rfl
  replace hS := hS.move (k := 6) rfl
  simp only [List.set_cons_zero, List.set_cons_succ, List.eraseIdx_cons_succ, List.eraseIdx_cons_zero] at hS
  exact hS.drop hnw
 | keyed kl2 il2 ml2 at_ sq n l ho bv hv lv s m oh og okb hl0 Bk hp pre pad mp hb hh hil hml hm hL =>
  have hz : l = [] ∧ ho = none := by
   simp only [leftQ, Bool.false_eq_true, if_false, Bool.or_eq_false_iff, decide_eq_false_iff_not, Nat.not_lt, Nat.le_zero] at hq
   exact ⟨List.length_eq_zero_iff.1 hq.1, by cases ho with | none => rfl | some x => cases hq.2⟩
  obtain ⟨rfl, rfl⟩ := hz
  rcases hh with ⟨_, hhv, rfl, rfl, rfl⟩ | ⟨hd, h, _⟩
  ·
   have hsub : ∀ e ∈ T, e ∈ (strE s kl2 il2 at_ lv :: kbE okb Bk :: rowE none [] [] :: gRow og pre [] pad :: macE m ml2 mp :: T) := fun e he => List.mem_cons_of_mem _ (List.mem_cons_of_mem _ (List.mem_cons_of_mem _ (List.mem_cons_of_mem _ (List.mem_cons_of_mem _ he))))
   refine (hand_ok (T := strE s kl2 il2 at_ lv :: kbE okb Bk :: rowE none [] [] :: gRow og pre [] pad :: macE m ml2 mp :: T) (nw_cons rfl (nw_cons rfl (nw_cons rfl (nw_cons rfl (nw_cons rfl hT))))) hS (h1.mono hsub) (h2.mono hsub) (h3.mono hsub) l1 l2 l3).mono fun e w' ⟨he, s', m', mp', hm', hS'⟩ => ?_
   refine ⟨he, _, PSh.keyed kl il ml 0 sq 0 [] none bv hv (.slice none 0 0) s' m' none og none [] [] [] pre pad mp' hb (.inl ⟨rfl, hhv, rfl, rfl, rfl⟩) l2 l3 hm' nil_left, ?_⟩
   have hS := hS'
   replace hS := hS.move (k := 1) rfl
   replace hS := hS.move (k := 7) rfl
   replace hS := hS.move (k := 7) rfl
   replace hS := hS.move (k := 5) rfl
   replace hS := hS.move (k := 5) rfl
   replace hS := hS.move (k := 5) rfl
   replace hS := hS.move (k := 8) rfl
   replace hS := hS.move (k := 8) rfl
   replace hS := hS.move (k := 8) rfl
   simp only [List.set_cons_zero, List.set_cons_succ, List.eraseIdx_cons_succ, List.eraseIdx_cons_zero] at hS
   exact ((hS.drop rfl).drop rfl).drop rfl
  ·
   cases h
theorem ptake_bad {w00 w : World} {r : Nat} {q : QS} {X T : List Ent} {k1 k2 k3 : Value} {kl il ml : List UInt8} (hX : PSh w00 r q X) (hT : ∀ e ∈ T, e.nw = true) (hS : St w00 w (X ++ T)) (h1 : SRd w00 T k1 (kl.map vB)) (h2 : SRd w00 T k2 (il.map vB)) (h3 : SRd w00 T k3 (ml.map vB)) (l1 : kl.length = 16) (l2 : il.length = 16) (l3 : ml.length ≠ 32) :
  Calls Tryd.prog 19 #[.pointer (some ⟨r, 0, none⟩), .agg #[k1, k2, k3]] w fun e w' => e = .returned (.int .i64 2) ∧ St w00 w' (X ++ T) := by
 have hXn := hX.nw
 cases hX with
 | dead key at_ sq n B hd st mac => exact hand_bad hT hS h1 h2 h3 l1 l2 l3
 | plain at_ sq n l ho mac bv hv hE og pre pad hnw hb hh =>
  have hsub : ∀ e ∈ T, e ∈ (hE :: gRow og pre l pad :: T) := fun e he => List.mem_cons_of_mem _ (List.mem_cons_of_mem _ he)
  exact hand_bad (T := hE :: gRow og pre l pad :: T) (nw_cons hnw (nw_cons rfl hT)) hS (h1.mono hsub) (h2.mono hsub) (h3.mono hsub) l1 l2 l3
 | keyed kl2 il2 ml2 at_ sq n l ho bv hv lv s m oh og okb hl0 Bk hp pre pad mp hb hh hil hml hm hL =>
  have hsub : ∀ e ∈ T, e ∈ (strE s kl2 il2 at_ lv :: kbE okb Bk :: rowE oh hl0 hp :: gRow og pre l pad :: macE m ml2 mp :: T) := fun e he => List.mem_cons_of_mem _ (List.mem_cons_of_mem _ (List.mem_cons_of_mem _ (List.mem_cons_of_mem _ (List.mem_cons_of_mem _ he))))
  exact hand_bad (T := strE s kl2 il2 at_ lv :: kbE okb Bk :: rowE oh hl0 hp :: gRow og pre l pad :: macE m ml2 mp :: T) (nw_cons rfl (nw_cons rfl (nw_cons rfl (nw_cons rfl (nw_cons rfl hT))))) hS (h1.mono hsub) (h2.mono hsub) (h3.mono hsub) l1 l2 l3
end Go.Proofs.YtfhalnobaeogkaaDoor

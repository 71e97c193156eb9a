/- What is proved: the contract of the image of a reference record. -/
import Derived.Test.YtfhalnobaeogkaaDoorProg
import Derived.Test.YtfhalnobaeogkaaDoorFwSep
import Derived.KernelRfl
import Derived.Test.YtfhalnobaeogkaaDoorFwSto
import Derived.Test.YtfhalnobaeogkaaDoorFwVlt
import Derived.Test.YtfhalnobaeogkaaDoorFwApp
import Derived.Test.YtfhalnobaeogkaaDoorFwWord
import Derived.Test.YtfhalnobaeogkaaDoorFwPkt
import Derived.Test.YtfhalnobaeogkaaDoorFwTok
import Derived.Test.YtfhalnobaeogkaaDoorDig
import Derived.Test.YtfhalnobaeogkaaDoorSum
import Derived.Test.YtfhalnobaeogkaaDoorWire
import Derived.Test.YtfhalnobaeogkaaDoorPktW
import Derived.Test.YtfhalnobaeogkaaDoorPktR
import Derived.Test.YtfhalnobaeogkaaDoorWireA
import Derived.Test.YtfhalnobaeogkaaDoorDisk
import Derived.Test.YtfhalnobaeogkaaDoorFwZer
import Derived.Test.YtfhalnobaeogkaaDoorWireA
import Derived.Test.YtfhalnobaeogkaaDoorHead
import Derived.Test.YtfhalnobaeogkaaDoorHalf
import Derived.Test.YtfhalnobaeogkaaDoorOpen
import Derived.Test.YtfhalnobaeogkaaDoorSave
import Derived.Test.YtfhalnobaeogkaaDoorVPure
import Derived.Test.YtfhalnobaeogkaaDoorRefH
import Derived.Test.YtfhalnobaeogkaaDoorRefSum
import Derived.Test.YtfhalnobaeogkaaDoorRefCur
import Derived.Test.YtfhalnobaeogkaaDoorRefBy
set_option linter.unusedVariables false
set_option linter.unusedSimpArgs false
namespace Go.Proofs.YtfhalnobaeogkaaDoor
open Go Go.RowKit Go.Fw

theorem Tryd.sz75 : (Tryd.prog.info? 75).map (·.size) = some 3 := by kernel_rfl
theorem Tryd.ok63 : CallOk Tryd.prog 63 := ⟨_, Tryd.func63, by kernel_rfl, by kernel_rfl⟩
theorem Tryd.ok64 : CallOk Tryd.prog 64 := ⟨_, Tryd.func64, by kernel_rfl, by kernel_rfl⟩

set_option maxHeartbeats 1000000 in
theorem rimage_ok {g : UInt64} {al cl : List UInt8} {p : Bool} {w0 : World} (ha : al.length ≤ 67108864) (hcl : cl.length ≤ 67108864) :
    Calls Tryd.prog 38 #[vD g, recV al cl p] w0 fun e w' => ∃ o op, e = .returned (.slice (some ⟨o, 0, none⟩) (imgF g (recB al cl p)).length ((imgF g (recB al cl p)).length + op.length)) ∧ (imgF g (recB al cl p)).length + op.length ≤ 9223372036854775807 ∧ St w0 w' [⟨true, some o, blk 5 ((imgF g (recB al cl p)).map vB ++ op)⟩] := by
  refine calls_start 56 Tryd.func38 rfl Tryd.ntmps38 rfl fun a hF => ?_
  have hS := St.refl w0
  have hRl := recB_len al cl p
  refine wp_seq_k fun Kq1 hKq1 => ?_
  -- region 0 (ref.go:25)
  refine wp_region_lit ?_
  refine wpList_stp (stp_box (cs := [sV al, sV cl, .bool p]) hF (wanted_none rfl) rfl rfl rfl (hF.t rfl) rfl hS fun rb a w hF hS => ?_)
  refine wpList_stp (stp_gv hF (wanted_none rfl) rfl rfl (gv_assign rfl (ev_const _ _)) fun a hF => ?_)
  refine wpList_nil ?_
  refine then_normal (hKq1 _ _ ?_)
  refine wp_seq_k fun Kq2 hKq2 => ?_
  -- region 1 (ref.go:26)
  refine wp_region_lit ?_
  refine wpList_stp (stp_gv hF (wanted_none rfl) rfl rfl (gv_loadAll rfl Tryd.underlying75 rfl (Tryd.sz75.trans (congrArg some (rfl))) (hF.t rfl) hS (k := 0) rfl) fun a hF => ?_)
  refine wpList_stp (stp_call hF (wanted_none rfl) rfl rfl Tryd.ok63 rfl (Evs.cons (hF.t rfl) Evs.nil) (rbytes_ok (al := al) (cl := cl) (p := p) (by omega) (by omega)) fun e w h => ?_)
  obtain ⟨o, op, rfl, oc, hN⟩ := h
  refine ⟨_, rfl, fun a hF => ?_⟩
  replace hS := hS.join hN (nw_cons rfl nw_nil)
  simp only [List.cons_append, List.nil_append] at hS
  clear hN
  obtain ⟨RB, hRB⟩ : ∃ RB, RB = recB al cl p := ⟨_, rfl⟩
  rw [← hRB] at hF oc hS hRl
  refine wpList_stp (stp_gv hF (wanted_none rfl) rfl rfl (gv_assign rfl (hF.t rfl)) fun a hF => ?_)
  refine wpList_nil ?_
  refine then_normal (hKq2 _ _ ?_)
  refine wp_seq_k fun Kq3 hKq3 => ?_
  -- region 2 (ref.go:27)
  refine wp_region_lit ?_
  refine wpList_stp (stp_build4 hF (wanted_none rfl) rfl rfl rfl Tryd.underlying22 Tryd.ty5 (v0 := 77) (v1 := 85) (v2 := 78) (v3 := 73) rfl rfl rfl rfl hS fun h a w hF hS => ?_)
  refine wpList_stp (stp_convConst (k := 0) hF (wanted_none rfl) rfl rfl rfl Tryd.underlying22 Tryd.underlying5 (hF.t rfl) hS rfl fun a w hF hS => ?_)
  refine wpList_stp (stp_gv hF (wanted_none rfl) rfl rfl (gv_assign rfl (hF.t rfl)) fun a hF => ?_)
  refine wpList_nil ?_
  refine then_normal (hKq3 _ _ ?_)
  refine wp_seq_k fun Kq4 hKq4 => ?_
  refine wp_seq_k fun Kq5 hKq5 => ?_
  -- region 3 (ref.go:28)
  refine wp_region_lit ?_
  refine wpList_stp (stp_gv hF (wanted_none rfl) rfl rfl (gv_assign rfl (ev_const _ _)) fun a hF => ?_)
  refine wpList_nil ?_
  refine then_normal (hKq5 _ _ ?_)
  refine wp_block ?_
  refine wp_loop_n (fun n a w => ∃ (q j : Nat) (f : Bool) (h : Nat) (hp : List Value), q + j = 8 ∧ n = j ∧ (q ≠ 0 → f = false) ∧ (f = true → hp = []) ∧ (ig g q).length + hp.length ≤ 9223372036854775807 ∧ Fr 56 a [(0, vD g), (5, .slice (some ⟨o, 0, none⟩) RB.length (RB.length + op.length)), (6, .slice (some ⟨h, 0, none⟩) (ig g q).length ((ig g q).length + hp.length)), (7, dctr j)] ∧ St w0 w [⟨true, some h, blkX f 5 ((ig g q).map vB ++ hp)⟩, ⟨true, some o, blk 5 (RB.map vB ++ op)⟩, ⟨true, some rb, rrO al cl p⟩]) 8 ⟨0, 8, true, h, [], rfl, rfl, (fun h => absurd rfl h), (fun _ => rfl), by rw [ig_len]; decide, hF.sub ⟨rfl, rfl, rfl, rfl, trivial⟩, by rw [List.append_nil, ← ig_zero]; exact hS⟩ ?_
  rintro n a w ⟨q, j, f, h, hp, hqj, hn1, hf8, hfp, hc, hF, hS⟩
  refine wp_seq_k fun Kq6 hKq6 => ?_
  refine wp_seq_k fun Kq7 hKq7 => ?_
  -- region 4 (ref.go:28)
  refine wp_region_lit ?_
  refine wpList_stp (stp_gv hF (wanted_none rfl) rfl rfl (gv_move rfl (hF.t rfl)) fun a hF => ?_)
  refine wpList_stp (stp_gv hF (wanted_none rfl) rfl rfl (gv_geq rfl (hF.t rfl) (ev_const _ _)) fun a hF => ?_)
  refine wpList_nil ?_
  refine then_normal (hKq7 _ _ ?_)
  refine cond_dec (hF.t rfl) (fun h13 => ?_) (fun h13 => ?_)
  ·
    obtain ⟨j, rfl⟩ : ∃ i, j = i + 1 := ⟨j - 1, by omega⟩
    replace hF : Fr 56 a [(0, vD g), (5, .slice (some ⟨o, 0, none⟩) RB.length (RB.length + op.length)), (6, .slice (some ⟨h, 0, none⟩) (ig g q).length ((ig g q).length + hp.length)), (7, vI j)] := hF.sub ⟨rfl, rfl, rfl, congrArg some (dctr_succ j), trivial⟩
    refine wp_skip ?_
    refine then_normal (hKq6 _ _ ?_)
    refine wp_seq_k fun Kq8 hKq8 => ?_
    refine wp_block ?_
    -- region 6 (ref.go:29)
    refine wp_region_lit ?_
    refine wpList_stp (stp_gv hF (wanted_none rfl) rfl rfl (gv_move rfl (hF.t rfl)) fun a hF => ?_)
    refine wpList_stp (stp_gv hF (wanted_none rfl) rfl rfl (gv_move rfl (hF.t rfl)) fun a hF => ?_)
    refine wpList_stp (stp_gv hF (wanted_none rfl) rfl rfl (gv_move rfl (hF.t rfl)) fun a hF => ?_)
    refine wpList_stp (stp_gv hF (wanted_none rfl) rfl rfl (gv_nmul (m := 8) rfl rfl (hF.t rfl) (by omega)) fun a hF => ?_)
    refine wpList_stp (stp_gv hF (wanted_none rfl) rfl rfl (gv_d_shr rfl (hF.t rfl) (hF.t rfl) (by omega)) fun a hF => ?_)
    refine wpList_stp (stp_gv hF (wanted_none rfl) rfl rfl (gv_conv_d_b rfl Tryd.underlying76 Tryd.underlying5 (hF.t rfl)) fun a hF => ?_)
    refine wpList_stp (stp_build1 (v := _) hF (wanted_none rfl) rfl rfl rfl Tryd.underlying22 Tryd.ty5 (hF.t rfl) hS fun zb a w hF hS => ?_)
    refine wpList_stp (stp_app1Y (k := 0) hfp hF (wanted_none rfl) rfl rfl rfl Tryd.underlying22 Tryd.ty5 rfl (hF.t rfl) (hF.t rfl) hS rfl hc (by rw [ig_len]; omega) fun h hp a w hF hc hS => ?_)
    refine wpList_stp (stp_gv hF (wanted_none rfl) rfl rfl (gv_assign rfl (hF.t rfl)) fun a hF => ?_)
    refine wpList_nil ?_
    refine block_normal ?_
    refine then_normal (hKq8 _ _ ?_)
    -- region 5 (ref.go:28)
    refine wp_region_lit ?_
    refine wpList_stp (stp_gv hF (wanted_none rfl) rfl rfl (gv_move rfl (hF.t rfl)) fun a hF => ?_)
    refine wpList_stp (stp_gv hF (wanted_none rfl) rfl rfl (gv_sub rfl (hF.t rfl) (ev_const _ _) (by omega) (by omega)) fun a hF => ?_)
    refine wpList_stp (stp_gv hF (wanted_none rfl) rfl rfl (gv_assign rfl (hF.t rfl)) fun a hF => ?_)
    refine wpList_nil ?_
    refine then_normal ?_
    rw [ig_succ _ _ _ (show j = 7 - q by omega)] at hF hc hS
    exact ⟨n - 1, by omega, q + 1, j, false, h, hp, by omega, by omega, (fun _ => rfl), (fun h => by cases h), hc, hF.sub ⟨rfl, rfl, rfl, rfl, trivial⟩, hS⟩
  ·
    refine wp_exit ?_
    refine then_exit ?_
    refine then_exit ?_
    refine block_exit ?_
    refine then_normal (hKq4 _ _ ?_)
    refine wp_seq_k fun Kq9 hKq9 => ?_
    obtain rfl : j = 0 := by omega
    obtain rfl : q = 8 := by omega
    obtain rfl := hf8 (by decide)
    replace hS : St w0 w [⟨true, some h, blk 5 ((ig g 8).map vB ++ hp)⟩, ⟨true, some o, blk 5 (RB.map vB ++ op)⟩, ⟨true, some rb, rrO al cl p⟩] := hS
    -- region 7 (ref.go:31)
    refine wp_region_lit ?_
    refine wpList_stp (stp_gv hF (wanted_none rfl) rfl rfl (gv_move rfl (hF.t rfl)) fun a hF => ?_)
    refine wpList_stp (stp_gv hF (wanted_none rfl) rfl rfl (gv_move rfl (hF.t rfl)) fun a hF => ?_)
    refine wpList_stp (stp_gv hF (wanted_none rfl) rfl rfl (gv_len rfl Tryd.underlying22 (hF.t rfl)) fun a hF => ?_)
    refine wpList_stp (stp_call hF (wanted_none rfl) rfl rfl Tryd.ok54 rfl (Evs.cons (hF.t rfl) Evs.nil) (ru32_mk (n := RB.length) (by omega)) fun e w h => ?_)
    obtain ⟨ub, rfl, hN⟩ := h
    refine ⟨_, rfl, fun a hF => ?_⟩
    replace hS := hS.join hN (nw_cons rfl nw_nil)
    simp only [List.cons_append, List.nil_append] at hS
    clear hN
    have hR : Rd w (.slice (some ⟨ub, 0, none⟩) 4 4) ((u32B (UInt32.ofNat RB.length)).map vB) := rd_blkB hS List.mem_cons_self rfl (by omega)
    refine wpList_stp (stp_appB (ob := some h) (l := ig g 8) (k := 1) hF (wanted_none rfl) rfl rfl rfl Tryd.underlying22 Tryd.ty5 rfl (hF.t rfl) (hF.t rfl) hS rfl (fun h => by cases h) hc hR (by rw [u32B_len, ig_len]; omega) fun h hp a w hF ho hc hS => ?_)
    replace hS := hS.drop rfl
    rw [ig_hdr] at hF ho hc hS
    obtain ⟨HD, hHD⟩ : ∃ HD, HD = hdr g RB.length := ⟨_, rfl⟩
    have hHl : HD.length = 16 := by rw [hHD]; rfl
    rw [← hHD] at hF ho hc hS
    obtain ⟨h, rfl⟩ := own_some ho (by omega)
    clear ho hR
    refine wpList_stp (stp_gv hF (wanted_none rfl) rfl rfl (gv_assign rfl (hF.t rfl)) fun a hF => ?_)
    refine wpList_nil ?_
    refine then_normal (hKq9 _ _ ?_)
    refine wp_seq_k fun Kq10 hKq10 => ?_
    -- region 8 (ref.go:32)
    refine wp_region_lit ?_
    refine wpList_stp (stp_gv hF (wanted_none rfl) rfl rfl (gv_move rfl (hF.t rfl)) fun a hF => ?_)
    refine wpList_stp (stp_gv hF (wanted_none rfl) rfl rfl (gv_move rfl (hF.t rfl)) fun a hF => ?_)
    replace hS := hS.addNil (blk 5 (([] : List UInt8).map vB ++ []))
    refine wpList_stp (stp_appB (ob := none) (l := []) (pad := []) (k := 0) hF (wanted_none rfl) rfl rfl rfl Tryd.underlying22 Tryd.ty5 rfl (ev_const _ _) (hF.t rfl) hS rfl (fun _ => ⟨rfl, rfl⟩) (by simp) ((own_rd (w0 := w0) (ob := some h) (l := HD) (List.mem_of_getElem? (i := 0) rfl) (fun h => by cases h) rfl hc) w _ (hS.drop rfl) (nw_cons rfl (nw_cons rfl (nw_cons rfl nw_nil))) (fun e he => he)) (by simp; omega) fun h2 h2p a w hF h2o h2c hS => ?_)
    simp only [List.nil_append] at hF h2o h2c hS
    refine wpList_stp (stp_gv hF (wanted_none rfl) rfl rfl (gv_move rfl (hF.t rfl)) fun a hF => ?_)
    refine wpList_stp (stp_appB (k := 0) hF (wanted_none rfl) rfl rfl rfl Tryd.underlying22 Tryd.ty5 rfl (hF.t rfl) (hF.t rfl) hS rfl h2o h2c ((own_rd (w0 := w0) (ob := some o) (l := RB) (List.mem_of_getElem? (i := 2) rfl) (fun h => by cases h) rfl oc) w _ (hS) (nw_cons rfl (nw_cons rfl (nw_cons rfl (nw_cons rfl nw_nil)))) (fun e he => he)) (by omega) fun h2 h2p a w hF h2o h2c hS => ?_)
    refine wpList_stp (stp_call hF (wanted_none rfl) rfl rfl Tryd.ok64 rfl (Evs.cons (hF.t rfl) (Evs.cons (ev_const _ _) Evs.nil)) (rsum_ok ((own_rd (w0 := w0) (ob := h2) (l := HD ++ RB) (List.mem_of_getElem? (i := 0) rfl) h2o rfl h2c) w _ (hS) (nw_cons rfl (nw_cons rfl (nw_cons rfl (nw_cons rfl nw_nil)))) (fun e he => he)) (by rw [List.length_append]; omega)) fun e w h => ?_)
    obtain ⟨s, sp, rfl, sc, hN⟩ := h
    refine ⟨_, rfl, fun a hF => ?_⟩
    replace hS := hS.join hN (nw_cons rfl nw_nil)
    simp only [List.cons_append, List.nil_append] at hS
    clear hN
    obtain ⟨SM, hSM⟩ : ∃ SM, SM = sum256 (HD ++ RB) := ⟨_, rfl⟩
    have hSl : SM.length = 32 := by rw [hSM]; exact sum256_len _
    rw [← hSM] at hS
    have hR : Rd w (.slice (some ⟨s, 0, none⟩) 32 (32 + sp.length)) (SM.map vB) := (own_rd (w0 := w0) (ob := some s) (l := SM) (n := 32) List.mem_cons_self (fun h => by cases h) hSl sc) w _ hS (nw_cons rfl (nw_cons rfl (nw_cons rfl (nw_cons rfl (nw_cons rfl nw_nil))))) (fun e he => he)
    refine wpList_stp (stp_appB (ob := some h) (l := HD) (k := 2) hF (wanted_none rfl) rfl rfl rfl Tryd.underlying22 Tryd.ty5 rfl (hF.t rfl) (hF.t rfl) hS rfl (fun h => by cases h) hc hR (by omega) fun h hp a w hF ho hc hS => ?_)
    replace hS := (hS.drop rfl).drop rfl
    have h48 : (HD ++ SM).length = 48 := by rw [List.length_append]; omega
    obtain ⟨h, rfl⟩ := own_some ho (by omega)
    clear ho hR
    refine wpList_stp (stp_gv hF (wanted_none rfl) rfl rfl (gv_assign rfl (hF.t rfl)) fun a hF => ?_)
    refine wpList_nil ?_
    refine then_normal (hKq10 _ _ ?_)
    refine wp_seq_k fun Kq11 hKq11 => ?_
    -- region 9 (ref.go:33)
    refine wp_region_lit ?_
    refine wpList_stp (stp_gv hF (wanted_none rfl) rfl rfl (gv_move rfl (hF.t rfl)) fun a hF => ?_)
    refine wpList_stp (stp_gv hF (wanted_none rfl) rfl rfl (gv_move rfl (hF.t rfl)) fun a hF => ?_)
    refine wpList_stp (stp_gv hF (wanted_none rfl) rfl rfl (gv_slice2 (l := 4) (h := 12) rfl Tryd.underlying22 Tryd.sz5 (hF.t rfl) rfl rfl (by omega) (by omega)) fun a hF => ?_)
    have hR : Rd w (cut3V (some ⟨h, 0, none⟩) 4 12 ((HD ++ SM).length + hp.length)) (((HD.take 12).drop 4).map vB) := by
      have := (SRd.cut3 (l := 4) (h := 12) (own_rd (w0 := w0) (ob := some h) (l := HD ++ SM) (List.mem_of_getElem? (i := 0) rfl) (fun h => by cases h) rfl hc) (by omega) (by omega) (by omega) (Nat.le_refl _)) w _ hS (nw_cons rfl (nw_cons rfl (nw_cons rfl nw_nil))) (fun e he => he)
      rw [← List.map_take, ← List.map_drop, List.take_append_of_le_length (by omega)] at this
      exact this
    refine wpList_stp (stp_appB (ob := some h) (l := HD ++ SM) (k := 0) hF (wanted_none rfl) rfl rfl rfl Tryd.underlying22 Tryd.ty5 rfl (hF.t rfl) (hF.t rfl) hS rfl (fun h => by cases h) hc hR (by rw [h48, List.length_drop, List.length_take]; omega) fun h hp a w hF ho hc hS => ?_)
    obtain ⟨L2, hL2⟩ : ∃ L2, L2 = HD ++ SM ++ (HD.take 12).drop 4 := ⟨_, rfl⟩
    have hL2l : L2.length = 56 := by rw [hL2, List.length_append, h48, List.length_drop, List.length_take]; omega
    rw [← hL2] at hF ho hc hS
    obtain ⟨h, rfl⟩ := own_some ho (by omega)
    clear ho hR
    refine wpList_stp (stp_gv hF (wanted_none rfl) rfl rfl (gv_assign rfl (hF.t rfl)) fun a hF => ?_)
    refine wpList_nil ?_
    refine then_normal (hKq11 _ _ ?_)
    refine wp_seq_k fun Kq12 hKq12 => ?_
    -- region 10 (ref.go:34)
    refine wp_region_lit ?_
    refine wpList_stp (stp_gv hF (wanted_none rfl) rfl rfl (gv_move rfl (hF.t rfl)) fun a hF => ?_)
    refine wpList_stp (stp_gv hF (wanted_none rfl) rfl rfl (gv_move rfl (hF.t rfl)) fun a hF => ?_)
    refine wpList_stp (stp_gv hF (wanted_none rfl) rfl rfl (gv_len rfl Tryd.underlying22 (hF.t rfl)) fun a hF => ?_)
    rw [hL2l] at hF
    refine wpList_stp (stp_gv hF (wanted_none rfl) rfl rfl (gv_nsub (m := 64) rfl rfl (hF.t rfl) (by omega) (by omega)) fun a hF => ?_)
    refine wpList_stp (stp_appZ (ob := some h) (l := L2) (k := 0) (n := 8) hF (wanted_none rfl) rfl rfl rfl Tryd.underlying22 Tryd.underlying3 Tryd.underlying9 Tryd.ty5 (by rw [hL2l]; exact hF.t rfl) (hF.t rfl) (by decide) hS rfl (fun h => by cases h) hc (by omega) fun h hp a w hF ho hc hS => ?_)
    rw [show L2 ++ List.replicate 8 0 = headF g RB from by rw [headF, ← hHD, ← hSM, ← hL2]] at hF ho hc hS
    have h64 := headF_len g RB
    obtain ⟨h, rfl⟩ := own_some ho (by omega)
    clear ho
    refine wpList_stp (stp_gv hF (wanted_none rfl) rfl rfl (gv_assign rfl (hF.t rfl)) fun a hF => ?_)
    refine wpList_nil ?_
    refine then_normal (hKq12 _ _ ?_)
    refine wp_seq_k fun Kq13 hKq13 => ?_
    -- region 11 (ref.go:35)
    refine wp_region_lit ?_
    refine wpList_stp (stp_gv hF (wanted_none rfl) rfl rfl (gv_move rfl (hF.t rfl)) fun a hF => ?_)
    refine wpList_stp (stp_gv hF (wanted_none rfl) rfl rfl (gv_move rfl (hF.t rfl)) fun a hF => ?_)
    refine wpList_stp (stp_appB (ob := some h) (l := headF g RB) (k := 0) hF (wanted_none rfl) rfl rfl rfl Tryd.underlying22 Tryd.ty5 rfl (hF.t rfl) (hF.t rfl) hS rfl (fun h => by cases h) hc ((own_rd (w0 := w0) (ob := some o) (l := RB) (List.mem_of_getElem? (i := 1) rfl) (fun h => by cases h) rfl oc) w _ (hS) (nw_cons rfl (nw_cons rfl (nw_cons rfl nw_nil))) (fun e he => he)) (by omega) fun h hp a w hF ho hc hS => ?_)
    replace hS := hS.drop2 rfl
    refine wpList_stp (stp_gv hF (wanted_none rfl) rfl rfl (gv_assign rfl (hF.t rfl)) fun a hF => ?_)
    refine wpList_nil ?_
    refine then_normal (hKq13 _ _ ?_)
    refine wp_seq_k fun Kq14 hKq14 => ?_
    refine wp_block ?_
    have hpi : padI RB.length ≤ 63 := by unfold padI; omega
    refine wp_loop_n (fun q1 a w => ∃ (z : Nat) (h : Option Nat) (hp : List Value), z ≤ padI RB.length ∧ q1 = padI RB.length - z ∧ (h = none → (headF g RB ++ RB ++ List.replicate z 0) = [] ∧ hp = []) ∧ ((headF g RB ++ RB ++ List.replicate z 0)).length + hp.length ≤ 9223372036854775807 ∧ Fr 56 a [(5, ownV h (headF g RB ++ RB ++ List.replicate z 0).length ((headF g RB ++ RB ++ List.replicate z 0).length + hp.length))] ∧ St w0 w [⟨true, h, blk 5 (((headF g RB ++ RB ++ List.replicate z 0)).map vB ++ hp)⟩, ⟨true, some rb, rrO al cl p⟩]) (padI RB.length) ⟨0, h, hp, by omega, by omega, by rw [List.replicate_zero, List.append_nil]; exact ho, by rw [List.replicate_zero, List.append_nil]; exact hc, by rw [List.replicate_zero, List.append_nil]; exact hF.sub ⟨rfl, trivial⟩, by rw [List.replicate_zero, List.append_nil]; exact hS⟩ ?_
    rintro q1 a w ⟨z, h, hp, hz, hq1, ho, hc, hF, hS⟩
    have hzl : (headF g RB ++ RB ++ List.replicate z 0).length = 64 + RB.length + z := by rw [List.length_append, List.length_append, List.length_replicate, h64]
    refine wp_seq_k fun Kq15 hKq15 => ?_
    refine wp_seq_k fun Kq16 hKq16 => ?_
    -- region 12 (ref.go:36)
    refine wp_region_lit ?_
    refine wpList_stp (stp_gv hF (wanted_none rfl) rfl rfl (gv_move rfl (hF.t rfl)) fun a hF => ?_)
    refine wpList_stp (stp_gv hF (wanted_none rfl) rfl rfl (gv_lenOwn rfl Tryd.underlying22 (hF.t rfl) (fun h => by rw [(ho h).1]; rfl)) fun a hF => ?_)
    refine wpList_stp (stp_gv hF (wanted_none rfl) rfl rfl (gv_nrem (n := 64) rfl (hF.t rfl) rfl (by omega)) fun a hF => ?_)
    refine wpList_stp (stp_gv hF (wanted_none rfl) rfl rfl (gv_neq rfl (hF.t rfl) (ev_const _ _)) fun a hF => ?_)
    refine wpList_nil ?_
    refine then_normal (hKq16 _ _ ?_)
    refine cond_dec (hF.t rfl) (fun h51 => ?_) (fun h51 => ?_)
    ·
      refine wp_skip ?_
      refine then_normal (hKq15 _ _ ?_)
      refine wp_block ?_
      -- region 13 (ref.go:37)
      refine wp_region_lit ?_
      refine wpList_stp (stp_gv hF (wanted_none rfl) rfl rfl (gv_move rfl (hF.t rfl)) fun a hF => ?_)
      refine wpList_stp (stp_build1 (v := 0) hF (wanted_none rfl) rfl rfl rfl Tryd.underlying22 Tryd.ty5 rfl hS fun zb a w hF hS => ?_)
      refine wpList_stp (stp_app1 (k := 0) hF (wanted_none rfl) rfl rfl rfl Tryd.underlying22 Tryd.ty5 rfl (hF.t rfl) (hF.t rfl) hS rfl ho hc (by omega) fun h hp a w hF ho hc hS => ?_)
      refine wpList_stp (stp_gv hF (wanted_none rfl) rfl rfl (gv_assign rfl (hF.t rfl)) fun a hF => ?_)
      refine wpList_nil ?_
      refine block_normal ?_
      refine then_normal ?_
      rw [rep_snocI] at hF ho hc hS
      have hlt : z < padI RB.length := by unfold padI at *; omega
      exact ⟨q1 - 1, by omega, z + 1, h, hp, by omega, by omega, ho, hc, hF.sub ⟨rfl, trivial⟩, hS⟩
    ·
      refine wp_exit ?_
      refine then_exit ?_
      refine then_exit ?_
      refine block_exit ?_
      refine then_normal (hKq14 _ _ ?_)
      refine wp_seq_k fun Kq17 hKq17 => ?_
      -- region 14 (ref.go:39)
      refine wp_region_lit ?_
      refine wpList_stp (stp_gv hF (wanted_none rfl) rfl rfl (gv_move rfl (hF.t rfl)) fun a hF => ?_)
      refine wpList_stp (stp_gv hF (wanted_none rfl) rfl rfl (gv_assign rfl (hF.t rfl)) fun a hF => ?_)
      refine wpList_nil ?_
      obtain rfl : z = padI RB.length := by unfold padI at *; omega
      obtain ⟨h, rfl⟩ := own_some ho (by omega)
      rw [show headF g RB ++ RB ++ List.replicate (padI RB.length) 0 = imgF g RB from rfl] at hF hc hS
      rw [hRB] at hF hc hS
      refine then_normal (hKq17 _ _ ?_)
      refine wp_ret ?_
      refine ret1 (fn := Tryd.f38) (t := 4) hF rfl rfl ?_
      exact ⟨h, hp, rfl, hc, hS.drop2 rfl⟩


end Go.Proofs.YtfhalnobaeogkaaDoor

/- What is proved: VaultRuns returns true. -/
import Derived.Test.YtfhalnobaeogkaaDoorProg
import Derived.Test.YtfhalnobaeogkaaDoorFwSep
import Derived.KernelRfl
import Derived.Test.YtfhalnobaeogkaaDoorFwSto
import Derived.Test.YtfhalnobaeogkaaDoorFwVlt
import Derived.Test.YtfhalnobaeogkaaDoorFwApp
import Derived.Test.YtfhalnobaeogkaaDoorFwWord
import Derived.Test.YtfhalnobaeogkaaDoorFwPkt
import Derived.Test.YtfhalnobaeogkaaDoorFwTok
import Derived.Test.YtfhalnobaeogkaaDoorDig
import Derived.Test.YtfhalnobaeogkaaDoorSum
import Derived.Test.YtfhalnobaeogkaaDoorWire
import Derived.Test.YtfhalnobaeogkaaDoorPktW
import Derived.Test.YtfhalnobaeogkaaDoorPktR
import Derived.Test.YtfhalnobaeogkaaDoorWireA
import Derived.Test.YtfhalnobaeogkaaDoorDisk
import Derived.Test.YtfhalnobaeogkaaDoorFwZer
import Derived.Test.YtfhalnobaeogkaaDoorFwSeq
import Derived.Test.YtfhalnobaeogkaaDoorWireA
import Derived.Test.YtfhalnobaeogkaaDoorHead
import Derived.Test.YtfhalnobaeogkaaDoorHalf
import Derived.Test.YtfhalnobaeogkaaDoorOpen
import Derived.Test.YtfhalnobaeogkaaDoorSave
import Derived.Test.YtfhalnobaeogkaaDoorVPure
import Derived.Test.YtfhalnobaeogkaaDoorRefH
import Derived.Test.YtfhalnobaeogkaaDoorRefSum
import Derived.Test.YtfhalnobaeogkaaDoorRefCur
import Derived.Test.YtfhalnobaeogkaaDoorRefBy
import Derived.Test.YtfhalnobaeogkaaDoorRefIm
import Derived.Test.YtfhalnobaeogkaaDoorRefHf
import Derived.Test.YtfhalnobaeogkaaDoorRefNw
import Derived.Test.YtfhalnobaeogkaaDoorRefLaw
import Derived.Test.YtfhalnobaeogkaaDoorLawVN
import Derived.Test.YtfhalnobaeogkaaDoorLawVF
import Derived.Test.YtfhalnobaeogkaaDoorFwFun
import Derived.Test.YtfhalnobaeogkaaDoorVCrash
import Derived.Test.YtfhalnobaeogkaaDoorVCall
import Derived.Test.YtfhalnobaeogkaaDoorVRunP
import Derived.Test.YtfhalnobaeogkaaDoorVRunW
set_option linter.unusedVariables false
set_option linter.unusedSimpArgs false
namespace Go.Proofs.YtfhalnobaeogkaaDoor
open Go Go.RowKit Go.Fw

theorem Tryd.zv3 : (Tryd.prog.info? 3).map (·.zero) = some (some (Value.int .i64 0)) := by kernel_rfl
theorem Tryd.zv4 : (Tryd.prog.info? 4).map (·.zero) = some (some (Value.bool false)) := by kernel_rfl
theorem Tryd.zv22 : (Tryd.prog.info? 22).map (·.zero) = some (some (Value.slice none 0 0)) := by kernel_rfl
theorem Tryd.ok33 : CallOk Tryd.prog 33 := ⟨_, Tryd.func33, by kernel_rfl, by kernel_rfl⟩
theorem Tryd.ok35 : CallOk Tryd.prog 35 := ⟨_, Tryd.func35, by kernel_rfl, by kernel_rfl⟩
theorem Tryd.ok36 : CallOk Tryd.prog 36 := ⟨_, Tryd.func36, by kernel_rfl, by kernel_rfl⟩
theorem Tryd.ok37 : CallOk Tryd.prog 37 := ⟨_, Tryd.func37, by kernel_rfl, by kernel_rfl⟩

set_option maxHeartbeats 4000000 in
theorem vruns_true {v0 : Value} {cs : List CallV} {bi : Int} {w0 : World} (hG : Glob w0) (hb : -9223372036854775808 ≤ bi ∧ bi ≤ 9223372036854775807) (hv : CVd w0 v0 cs) :
  Calls Tryd.prog 11 #[.int .i64 bi, v0] w0 fun e w' => e = .returned (.bool true) ∧ Ext w0 w' := by
 obtain ⟨A1, c1, hv1, _⟩ := hv.is
 subst hv1
 have hlen := hv.len
 obtain ⟨B, hB0, hBe, hB1, hB2⟩ := md bi 60 (by decide)
 obtain ⟨n, hn⟩ : ∃ n, n = B + 4 := ⟨_, rfl⟩
 refine calls_start 258 Tryd.func11 rfl Tryd.ntmps11 rfl fun a hF => ?_
 have hS := St.refl w0
 refine wp_seq_k fun Kq1 hKq1 => ?_
 refine wp_region_lit ?_
 refine wpList_stp (stp_gv hF (wanted_none rfl) rfl rfl (gv_assign rfl (ev_const _ _)) fun a hF => ?_)
 refine wpList_nil ?_
 refine then_normal (hKq1 _ _ ?_)
 refine wp_seq_k fun Kq2 hKq2 => ?_
 refine wp_seq_k fun Kq3 hKq3 => ?_
 refine wp_region_lit ?_
 refine wpList_stp (stp_call hF (wanted_none rfl) rfl rfl Tryd.ok27 rfl Evs.nil (fit18_ok hG) fun e w h => ?_)
 obtain ⟨rfl, hx⟩ := h
 refine ⟨_, rfl, fun a hF => ?_⟩
 replace hS := hS.ext hx
 clear hx
 refine wpList_stp (stp_gv hF (wanted_none rfl) rfl rfl (gv_not rfl (hF.t rfl)) fun a hF => ?_)
 refine wpList_nil ?_
 refine then_normal (hKq3 _ _ ?_)
 refine wp_cond_false (hF.t rfl) ?_
 refine wp_skip ?_
 refine then_normal (hKq2 _ _ ?_)
 refine wp_seq_k fun Kq4 hKq4 => ?_
 refine wp_seq_k fun Kq5 hKq5 => ?_
 refine wp_region_lit ?_
 refine wpList_stp (stp_gv hF (wanted_none rfl) rfl rfl (gv_move rfl (hF.t rfl)) fun a hF => ?_)
 refine wpList_stp (stp_call hF (wanted_none rfl) rfl rfl Tryd.ok36 rfl (Evs.cons (hF.t rfl) Evs.nil) (lightV_ok (hv.ext (hS.toExt nw_nil))) fun e w h => ?_)
 obtain ⟨rfl, hx⟩ := h
 refine ⟨_, rfl, fun a hF => ?_⟩
 replace hS := hS.ext hx
 clear hx
 refine wpList_stp (stp_gv hF (wanted_none rfl) rfl rfl (gv_not rfl (hF.t rfl)) fun a hF => ?_)
 rw [← decide_not] at hF
 refine wpList_nil ?_
 refine then_normal (hKq5 _ _ ?_)
 refine cond_dec (hF.t rfl) (fun h39 => ?_) (fun h39 => ?_)
 ·
  refine wp_seq_k fun Kq6 hKq6 => ?_
  refine wp_region_lit ?_
  refine wpList_stp (stp_gv hF (wanted_none rfl) rfl rfl (gv_assign rfl (ev_const _ _)) fun a hF => ?_)
  refine wpList_nil ?_
  refine then_normal (hKq6 _ _ ?_)
  refine wp_ret ?_
  refine then_ret ?_
  refine ret1 (fn := Tryd.f11) (t := 4) hF rfl rfl ?_
  exact ⟨rfl, hS.toExt nw_nil⟩
 ·
  have hli := Decidable.not_not.1 h39
  have hn150 := Nat.le_trans (lightV_len cs cs.length (Nat.le_refl _)) hli
  refine wp_skip ?_
  refine then_normal (hKq4 _ _ ?_)
  refine wp_seq_k fun Kq7 hKq7 => ?_
  refine wp_region_lit ?_
  refine wpList_stp (stp_gv hF (wanted_none rfl) rfl rfl (gv_move rfl (hF.t rfl)) fun a hF => ?_)
  refine wpList_stp (stp_gv hF (wanted_none rfl) rfl rfl (gv_rem rfl (hF.t rfl) (ev_const _ _) (by decide)) fun a hF => ?_)
  refine wpList_stp (stp_gv hF (wanted_none rfl) rfl rfl (gv_add rfl (hF.t rfl) (ev_const _ _) (by omega) (by omega)) fun a hF => ?_)
  refine wpList_stp (stp_gv hF (wanted_none rfl) rfl rfl (gv_rem rfl (hF.t rfl) (ev_const _ _) (by decide)) fun a hF => ?_)
  rw [hBe] at hF
  refine wpList_stp (stp_gv hF (wanted_none rfl) rfl rfl (gv_nadd (m := B) (n := 4) rfl (hF.t rfl) rfl (by omega)) fun a hF => ?_)
  rw [← hn] at hF
  refine wpList_stp (stp_gv hF (wanted_none rfl) rfl rfl (gv_assign rfl (hF.t rfl)) fun a hF => ?_)
  refine wpList_nil ?_
  refine then_normal (hKq7 _ _ ?_)
  refine wp_seq_k fun Kq8 hKq8 => ?_
  refine wp_region_lit ?_
  refine wpList_stp (stp_gv hF (wanted_none rfl) rfl rfl (gv_move rfl (hF.t rfl)) fun a hF => ?_)
  refine wpList_stp (stp_call hF (wanted_none rfl) rfl rfl Tryd.ok28 rfl (Evs.cons (hF.t rfl) Evs.nil) (new_call (n := n) (by omega) (by omega)) fun e w h => ?_)
  obtain ⟨d, p, rfl, hN⟩ := h
  refine ⟨_, rfl, fun a hF => ?_⟩
  replace hS := hS.join hN (nw_cons rfl (nw_cons rfl nw_nil))
  simp only [List.cons_append, List.nil_append] at hS
  clear hN
  refine wpList_stp (stp_gv hF (wanted_none rfl) rfl rfl (gv_move rfl (hF.t rfl)) fun a hF => ?_)
  refine wpList_stp (stp_gv hF (wanted_none rfl) rfl rfl (gv_extract rfl (hF.t rfl) rfl) fun a hF => ?_)
  refine wpList_stp (stp_gv hF (wanted_none rfl) rfl rfl (gv_extract rfl (hF.t rfl) rfl) fun a hF => ?_)
  refine wpList_stp (stp_gv hF (wanted_none rfl) rfl rfl (gv_assign rfl (hF.t rfl)) fun a hF => ?_)
  refine wpList_stp (stp_gv hF (wanted_none rfl) rfl rfl (gv_assign rfl (hF.t rfl)) fun a hF => ?_)
  refine wpList_nil ?_
  refine then_normal (hKq8 _ _ ?_)
  refine wp_seq_k fun Kq9 hKq9 => ?_
  refine wp_region_lit ?_
  refine wpList_stp (stp_gv hF (wanted_none rfl) rfl rfl (gv_move rfl (hF.t rfl)) fun a hF => ?_)
  refine wpList_stp (stp_call hF (wanted_none rfl) rfl rfl Tryd.ok29 rfl (Evs.cons (hF.t rfl) Evs.nil) (open_ok (hG.ext (hS.toExt (nw_cons rfl (nw_cons rfl nw_nil)))) (dskW_of (k := 0) (k' := 1) hS rfl rfl) (new_ok (by omega) (by omega))) fun e w h => ?_)
  obtain ⟨v, rfl, hN⟩ := h
  refine ⟨_, rfl, fun a hF => ?_⟩
  rw [new_open (by omega)] at hF hN
  replace hS := hS.join hN (nw_cons rfl nw_nil)
  simp only [List.cons_append, List.nil_append] at hS
  clear hN
  refine wpList_stp (stp_gv hF (wanted_none rfl) rfl rfl (gv_move rfl (hF.t rfl)) fun a hF => ?_)
  refine wpList_stp (stp_gv hF (wanted_none rfl) rfl rfl (gv_extract rfl (hF.t rfl) rfl) fun a hF => ?_)
  refine wpList_stp (stp_gv hF (wanted_none rfl) rfl rfl (gv_extract rfl (hF.t rfl) rfl) fun a hF => ?_)
  refine wpList_stp (stp_gv hF (wanted_none rfl) rfl rfl (gv_extract rfl (hF.t rfl) rfl) fun a hF => ?_)
  refine wpList_stp (stp_alloc hF (wanted_none rfl) rfl rfl rfl Tryd.zv63 rfl hS fun r8 a w hF hS => ?_)
  refine wpList_stp (stp_gv hF (wanted_none rfl) rfl rfl (gv_assign rfl (hF.t rfl)) fun a hF => ?_)
  refine wpList_stp (stp_storeAll hF (wanted_none rfl) rfl rfl (Tryd.sz63.trans (congrArg some (rfl))) (hF.t rfl) (hF.t rfl) ((by intro u hu; simp at hu; rcases hu with rfl | rfl | rfl <;> rfl)) hS (k := 0) rfl (rfl) fun w hS => ?_)
  refine wpList_stp (stp_gv hF (wanted_none rfl) rfl rfl (gv_assign rfl (hF.t rfl)) fun a hF => ?_)
  refine wpList_nil ?_
  refine then_normal (hKq9 _ _ ?_)
  refine wp_seq_k fun Kq10 hKq10 => ?_
  refine wp_region_lit ?_
  refine wpList_stp (stp_gv hF (wanted_none rfl) rfl rfl (gv_move rfl (hF.t rfl)) fun a hF => ?_)
  refine wpList_stp (stp_gv hF (wanted_none rfl) rfl rfl (gv_nmul (m := 64) rfl rfl (hF.t rfl) (by omega)) fun a hF => ?_)
  refine wpList_stp (stp_make (n := 64 * n) hF (wanted_none rfl) rfl rfl rfl Tryd.underlying22 Tryd.ty5 rfl (hF.t rfl) (hF.t rfl) (by omega) (by omega) hS fun bb a w hF hS => ?_)
  rw [z_blk] at hS
  refine wpList_stp (stp_alloc hF (wanted_none rfl) rfl rfl rfl Tryd.zv22 rfl hS fun sb a w hF hS => ?_)
  refine wpList_stp (stp_storeAt (0) hF (wanted_none rfl) rfl rfl Tryd.sz22 (hF.t rfl) (by omega) (hF.t rfl) rfl hS (k := 0) rfl (by simp) fun w hS => ?_)
  refine wpList_nil ?_
  refine then_normal (hKq10 _ _ ?_)
  refine wp_seq_k fun Kq11 hKq11 => ?_
  refine wp_region_lit ?_
  refine wpList_stp (stp_alloc hF (wanted_none rfl) rfl rfl rfl Tryd.zv3 rfl hS fun sf a w hF hS => ?_)
  refine wpList_stp (stp_alloc hF (wanted_none rfl) rfl rfl rfl Tryd.zv3 rfl hS fun st a w hF hS => ?_)
  refine wpList_stp (stp_alloc hF (wanted_none rfl) rfl rfl rfl Tryd.zv4 rfl hS fun sd a w hF hS => ?_)
  refine wpList_stp (stp_gv hF (wanted_none rfl) rfl rfl (gv_assign rfl (ev_const _ _)) fun a hF => ?_)
  refine wpList_stp (stp_gv hF (wanted_none rfl) rfl rfl (gv_assign rfl (ev_const _ _)) fun a hF => ?_)
  refine wpList_stp (stp_storeAt (0) hF (wanted_none rfl) rfl rfl Tryd.sz3 (hF.t rfl) (by omega) (ev_const _ _) rfl hS (k := 2) rfl (by simp) fun w hS => ?_)
  refine wpList_stp (stp_storeAt (0) hF (wanted_none rfl) rfl rfl Tryd.sz3 (hF.t rfl) (by omega) (ev_const _ _) rfl hS (k := 1) rfl (by simp) fun w hS => ?_)
  refine wpList_stp (stp_storeAt (0) hF (wanted_none rfl) rfl rfl Tryd.sz4 (hF.t rfl) (by omega) (ev_const _ _) rfl hS (k := 0) rfl (by simp) fun w hS => ?_)
  refine wpList_nil ?_
  refine then_normal (hKq11 _ _ ?_)
  refine wp_seq_k fun Kq12 hKq12 => ?_
  refine wp_region_lit ?_
  refine wpList_stp (stp_gv hF (wanted_none rfl) rfl rfl (gv_makeFunc rfl (Evs.cons (hF.t rfl) (Evs.cons (hF.t rfl) (Evs.cons (hF.t rfl) (Evs.cons (hF.t rfl) Evs.nil))))) fun a hF => ?_)
  refine wpList_stp (stp_gv hF (wanted_none rfl) rfl rfl (gv_assign rfl (hF.t rfl)) fun a hF => ?_)
  refine wpList_nil ?_
  refine then_normal (hKq12 _ _ ?_)
  refine wp_seq_k fun Kq13 hKq13 => ?_
  refine wp_seq_k fun Kq14 hKq14 => ?_
  refine wp_region_lit ?_
  refine wpList_stp (stp_gv hF (wanted_none rfl) rfl rfl (gv_move rfl (hF.t rfl)) fun a hF => ?_)
  refine wpList_stp (stp_gv hF (wanted_none rfl) rfl rfl (gv_len rfl Tryd.underlying83 (hF.t rfl)) fun a hF => ?_)
  refine wpList_stp (stp_gv hF (wanted_none rfl) rfl rfl (gv_move rfl (ev_const _ _)) fun a hF => ?_)
  refine wpList_nil ?_
  refine then_normal (hKq14 _ _ ?_)
  refine wp_block ?_
  replace hS := hS.move (k := 4) rfl
  replace hS := hS.move (k := 2) rfl
  replace hS := hS.move (k := 4) rfl
  replace hS := hS.move (k := 4) rfl
  replace hS := hS.move (k := 4) rfl
  replace hS := hS.move (k := 8) rfl
  replace hS := hS.move (k := 8) rfl
  replace hS := hS.move (k := 8) rfl
  simp only [List.eraseIdx_cons_succ, List.eraseIdx_cons_zero] at hS
  replace hS : St w0 w (⟨true, some v, vltO d 0 1⟩ :: ⟨true, some d, dskO p n n (newF n)⟩ :: ⟨true, some p, datO (newF n) []⟩ :: ⟨true, some sd, blk 4 [.bool (newF n).dead]⟩ :: ⟨true, some sf, blk 3 [.int .i64 (newF n).fuel]⟩ :: ⟨true, some sb, blk 22 [.slice (some ⟨bb, 0, none⟩) (64 * n) (64 * n)]⟩ :: ⟨true, some st, blk 3 [vI (newF n).torn]⟩ :: ⟨true, some bb, blk 5 ((newF n).l.map vB ++ [])⟩ :: []) := stTake hS 8 (nw_cons rfl nw_nil)
  refine wp_loop_n (fun nn a w => ∃ (i : Nat) (V : Vt) (D : Dk) (v d p c : Nat) (pad : List Value), i ≤ cs.length ∧ nn = cs.length - i ∧ n ≤ c ∧ c ≤ 9223372036854775807 ∧ DkOk n D ∧ V.k ≤ 1 ∧ Fr 258 a [(0, vI n), (5, .pointer (some ⟨d, 0, none⟩)), (7, .pointer (some ⟨v, 0, none⟩)), (10, .pointer (some ⟨sb, 0, none⟩)), (11, vD V.g), (12, vI V.k), (13, .pointer (some ⟨sf, 0, none⟩)), (14, .pointer (some ⟨st, 0, none⟩)), (15, .pointer (some ⟨sd, 0, none⟩)), (16, .func (.func 37) #[] [.pointer (some ⟨sd, 0, none⟩), .pointer (some ⟨sf, 0, none⟩), .pointer (some ⟨sb, 0, none⟩), .pointer (some ⟨st, 0, none⟩)].toArray), (60, .slice A1 cs.length c1), (61, vI cs.length), (62, vI i)] ∧ St w0 w (⟨true, some v, vltO d V.g V.k⟩ :: ⟨true, some d, dskO p n c D⟩ :: ⟨true, some p, datO D pad⟩ :: ⟨true, some sd, blk 4 [.bool (D).dead]⟩ :: ⟨true, some sf, blk 3 [.int .i64 (D).fuel]⟩ :: ⟨true, some sb, blk 22 [.slice (some ⟨bb, 0, none⟩) (64 * n) (64 * n)]⟩ :: ⟨true, some st, blk 3 [vI (D).torn]⟩ :: ⟨true, some bb, blk 5 ((D).l.map vB ++ [])⟩ :: [])) cs.length ⟨0, ⟨0, 1⟩, newF n, v, d, p, n, [], by omega, by omega, Nat.le_refl _, by omega, new_ok (by omega) (by omega), Nat.le_refl _, hF.sub ⟨rfl, rfl, rfl, rfl, rfl, rfl, rfl, rfl, rfl, rfl, rfl, rfl, rfl, trivial⟩, hS⟩ ?_
  rintro nn a w ⟨i, V, D, v, d, p, c, pad, hi, hnn, hc1, hc2, hK, hk, hF, hS⟩
  refine wp_seq_k fun Kq15 hKq15 => ?_
  refine wp_region_lit ?_
  refine wpList_stp (stp_gv hF (wanted_none rfl) rfl rfl (gv_lss rfl (hF.t rfl) (hF.t rfl)) fun a hF => ?_)
  refine wpList_nil ?_
  refine then_normal (hKq15 _ _ ?_)
  refine wp_seq_k fun Kq16 hKq16 => ?_
  refine cond_dec (hF.t rfl) (fun h63 => ?_) (fun h63 => ?_)
  ·
   obtain ⟨b1, o1, ⟨kd, ca, cc, cp, cn, ct⟩, hA1, hx1, hcell, hca, hcc, hcn, hct⟩ := hv.at (i := i) (by omega)
   simp only at hca hcc hcn hct
   subst hA1
   have hsm := lightV_small hli hx1
   simp only at hsm
   refine wp_skip ?_
   refine then_normal (hKq16 _ _ ?_)
   refine wp_seq_k fun Kq17 hKq17 => ?_
   refine wp_block ?_
   refine wp_seq_k fun Kq18 hKq18 => ?_
   refine wp_region_lit ?_
   refine wpList_stp (stp_gv hF (wanted_none rfl) rfl rfl (gv_indexSl rfl Tryd.underlying83 Tryd.sz87 (hF.t rfl) (hF.t rfl) (by omega)) fun a hF => ?_)
   refine wpList_stp (stp_gv hF (wanted_none rfl) rfl rfl (gv_loadAgg (vs := [.int .i64 kd, sV ca, sV cc, .bool cp, .int .i64 cn, .int .i64 ct]) rfl Tryd.underlying87 rfl (Tryd.sz87.trans (congrArg some (by rfl))) (hF.t rfl) (fun j u hu => ext_cell (hS.toExt (nw_cons rfl (nw_cons rfl (nw_cons rfl (nw_cons rfl (nw_cons rfl (nw_cons rfl (nw_cons rfl (nw_cons rfl nw_nil))))))))) (hcell j u hu))) fun a hF => ?_)
   refine wpList_stp (stp_alloc hF (wanted_none rfl) rfl rfl rfl Tryd.zv87 rfl hS fun cx a w hF hS => ?_)
   refine wpList_stp (stp_storeAll hF (wanted_none rfl) rfl rfl (Tryd.sz87.trans (congrArg some (by rfl))) (hF.t rfl) (hF.t rfl) (cellsV_one ⟨kd, ca, cc, cp, cn, ct⟩) hS (k := 0) rfl (by rfl) fun w hS => ?_)
   refine wpList_nil ?_
   refine then_normal (hKq18 _ _ ?_)
   refine wp_cut (fun a w => ∃ (V : Vt) (D : Dk) (v d p c : Nat) (pad : List Value), n ≤ c ∧ c ≤ 9223372036854775807 ∧ DkOk n D ∧ V.k ≤ 1 ∧ Fr 258 a [(0, vI n), (5, .pointer (some ⟨d, 0, none⟩)), (7, .pointer (some ⟨v, 0, none⟩)), (10, .pointer (some ⟨sb, 0, none⟩)), (11, vD V.g), (12, vI V.k), (13, .pointer (some ⟨sf, 0, none⟩)), (14, .pointer (some ⟨st, 0, none⟩)), (15, .pointer (some ⟨sd, 0, none⟩)), (16, .func (.func 37) #[] [.pointer (some ⟨sd, 0, none⟩), .pointer (some ⟨sf, 0, none⟩), .pointer (some ⟨sb, 0, none⟩), .pointer (some ⟨st, 0, none⟩)].toArray), (60, .slice (some ⟨b1, o1, none⟩) cs.length c1), (61, vI cs.length), (62, vI i)] ∧ St w0 w (⟨true, some v, vltO d V.g V.k⟩ :: ⟨true, some d, dskO p n c D⟩ :: ⟨true, some p, datO D pad⟩ :: ⟨true, some sd, blk 4 [.bool (D).dead]⟩ :: ⟨true, some sf, blk 3 [.int .i64 (D).fuel]⟩ :: ⟨true, some sb, blk 22 [.slice (some ⟨bb, 0, none⟩) (64 * n) (64 * n)]⟩ :: ⟨true, some st, blk 3 [vI (D).torn]⟩ :: ⟨true, some bb, blk 5 ((D).l.map vB ++ [])⟩ :: [])) ?_ ?_
   ·
    refine wp_seq_k fun Kq19 hKq19 => ?_
    refine wp_region_lit ?_
    refine wpList_stp (stp_gv hF (wanted_none rfl) rfl rfl (gv_field (r := 0) rfl Tryd.underlying87 rfl rfl Tryd.sz3 (by decide) (hF.t rfl)) fun a hF => ?_)
    refine wpList_stp (stp_gv hF (wanted_none rfl) rfl rfl (gv_load rfl Tryd.underlying3 rfl (hF.t rfl) (cell_ix (j := 0) (hS.cell (k := 0) rfl (rfl)) (by omega))) fun a hF => ?_)
    refine wpList_nil ?_
    refine then_normal (hKq19 _ _ ?_)
    refine wp_block ?_
    refine wp_seq_k fun Kq20 hKq20 => ?_
    refine wp_region_lit ?_
    refine wpList_stp (stp_gv hF (wanted_none rfl) rfl rfl (gv_eql rfl (hF.t rfl) (ev_const _ _)) fun a hF => ?_)
    refine wpList_stp (stp_gv hF (wanted_none rfl) rfl rfl (gv_assign rfl (hF.t rfl)) fun a hF => ?_)
    refine wpList_nil ?_
    refine then_normal (hKq20 _ _ ?_)
    refine cond_dec (hF.t rfl) (fun h68 => ?_) (fun h68 => ?_)
    ·
     refine wp_seq_k fun Kq21 hKq21 => ?_
     refine wp_region_lit ?_
     refine wpList_stp (stp_gv hF (wanted_none rfl) rfl rfl (gv_field (r := 1) rfl Tryd.underlying87 rfl rfl Tryd.sz9 (by decide) (hF.t rfl)) fun a hF => ?_)
     refine wpList_stp (stp_gv hF (wanted_none rfl) rfl rfl (gv_load rfl Tryd.underlying9 rfl (hF.t rfl) (cell_ix (j := 1) (hS.cell (k := 0) rfl (rfl)) (by omega))) fun a hF => ?_)
     refine wpList_stp (stp_gv hF (wanted_none rfl) rfl rfl (gv_field (r := 2) rfl Tryd.underlying87 rfl rfl Tryd.sz9 (by decide) (hF.t rfl)) fun a hF => ?_)
     refine wpList_stp (stp_gv hF (wanted_none rfl) rfl rfl (gv_load rfl Tryd.underlying9 rfl (hF.t rfl) (cell_ix (j := 2) (hS.cell (k := 0) rfl (rfl)) (by omega))) fun a hF => ?_)
     refine wpList_stp (stp_gv hF (wanted_none rfl) rfl rfl (gv_field (r := 3) rfl Tryd.underlying87 rfl rfl Tryd.sz4 (by decide) (hF.t rfl)) fun a hF => ?_)
     refine wpList_stp (stp_gv hF (wanted_none rfl) rfl rfl (gv_load rfl Tryd.underlying4 rfl (hF.t rfl) (cell_ix (j := 3) (hS.cell (k := 0) rfl (rfl)) (by omega))) fun a hF => ?_)
     refine wpList_stp (stp_gv hF (wanted_none rfl) rfl rfl (gv_build rfl (EvP.map (EvP.cons (hF.t rfl) (EvP.cons (hF.t rfl) (EvP.cons (hF.t rfl) EvP.nil)))) (build_rrec _ _ _ _)) fun a hF => ?_)
     refine wpList_stp (stp_alloc hF (wanted_none rfl) rfl rfl rfl Tryd.zv75 rfl hS fun q19 a w hF hS => ?_)
     refine wpList_stp (stp_storeAll hF (wanted_none rfl) rfl rfl (Tryd.sz75.trans (congrArg some (rfl))) (hF.t rfl) (hF.t rfl) ((by intro u hu; simp at hu; rcases hu with rfl | rfl | rfl <;> rfl)) hS (k := 0) rfl (rfl) fun w hS => ?_)
     refine wpList_nil ?_
     refine then_normal (hKq21 _ _ ?_)
     refine wp_seq_k fun Kq22 hKq22 => ?_
     refine wp_region_lit ?_
     refine wpList_stp (stp_gv hF (wanted_none rfl) rfl rfl (gv_move rfl (hF.t rfl)) fun a hF => ?_)
     refine wpList_stp (stp_gv hF (wanted_none rfl) rfl rfl (gv_field (r := 1) rfl Tryd.underlying87 rfl rfl Tryd.sz9 (by decide) (hF.t rfl)) fun a hF => ?_)
     refine wpList_stp (stp_gv hF (wanted_none rfl) rfl rfl (gv_load rfl Tryd.underlying9 rfl (hF.t rfl) (cell_ix (j := 1) (hS.cell (k := 1) rfl (rfl)) (by omega))) fun a hF => ?_)
     refine wpList_stp (stp_gv hF (wanted_none rfl) rfl rfl (gv_field (r := 2) rfl Tryd.underlying87 rfl rfl Tryd.sz9 (by decide) (hF.t rfl)) fun a hF => ?_)
     refine wpList_stp (stp_gv hF (wanted_none rfl) rfl rfl (gv_load rfl Tryd.underlying9 rfl (hF.t rfl) (cell_ix (j := 2) (hS.cell (k := 1) rfl (rfl)) (by omega))) fun a hF => ?_)
     refine wpList_stp (stp_gv hF (wanted_none rfl) rfl rfl (gv_field (r := 3) rfl Tryd.underlying87 rfl rfl Tryd.sz4 (by decide) (hF.t rfl)) fun a hF => ?_)
     refine wpList_stp (stp_gv hF (wanted_none rfl) rfl rfl (gv_load rfl Tryd.underlying4 rfl (hF.t rfl) (cell_ix (j := 3) (hS.cell (k := 1) rfl (rfl)) (by omega))) fun a hF => ?_)
     refine wpList_stp (stp_gv hF (wanted_none rfl) rfl rfl (gv_build rfl (EvP.map (EvP.cons (hF.t rfl) (EvP.cons (hF.t rfl) (EvP.cons (hF.t rfl) EvP.nil)))) (build_rec _ _ _ _)) fun a hF => ?_)
     replace hS := hS.move (k := 4) rfl
     replace hS := hS.move (k := 4) rfl
     replace hS := hS.move (k := 4) rfl
     simp only [List.eraseIdx_cons_succ, List.eraseIdx_cons_zero] at hS
     refine wpList_stp (stp_call hF (wanted_none rfl) rfl rfl Tryd.ok30 rfl (Evs.cons (hF.t rfl) (Evs.cons (hF.t rfl) Evs.nil)) (save_ok (al := ca) (cl := cc) (pp := cp) hG (nw_cons rfl (nw_cons rfl (nw_cons rfl (nw_cons rfl (nw_cons rfl (nw_cons rfl (nw_cons rfl nw_nil))))))) hS hK hk (by omega) (by omega)) fun e w h => ?_)
     obtain ⟨rfl, hS⟩ := h
     refine ⟨_, rfl, fun a hF => ?_⟩
     obtain ⟨S, hSv⟩ : ∃ S, S = saveF V D n ⟨ca, cc, cp⟩ := ⟨_, rfl⟩
     rw [← hSv] at hF hS
     refine wpList_stp (stp_gv hF (wanted_none rfl) rfl rfl (gv_assign rfl (hF.t rfl)) fun a hF => ?_)
     refine wpList_nil ?_
     refine then_normal (hKq22 _ _ ?_)
     refine wp_seq_k fun Kq23 hKq23 => ?_
     refine wp_region_lit ?_
     refine wpList_stp (stp_gv hF (wanted_none rfl) rfl rfl (gv_move rfl (hF.t rfl)) fun a hF => ?_)
     refine wpList_stp (stp_gv hF (wanted_none rfl) rfl rfl (gv_d_add (n := 1) rfl (hF.t rfl) rfl) fun a hF => ?_)
     refine wpList_stp (stp_gv hF (wanted_none rfl) rfl rfl (gv_loadAll rfl Tryd.underlying75 rfl (Tryd.sz75.trans (congrArg some (rfl))) (hF.t rfl) hS (k := 3) rfl) fun a hF => ?_)
     refine wpList_stp (stp_call hF (wanted_none rfl) rfl rfl Tryd.ok38 rfl (Evs.cons (hF.t rfl) (Evs.cons (hF.t rfl) Evs.nil)) (rimage_ok (g := V.g + 1) (al := ca) (cl := cc) (p := cp) (by omega) (by omega)) fun e w h => ?_)
     obtain ⟨im, op, rfl, hoc, hN⟩ := h
     refine ⟨_, rfl, fun a hF => ?_⟩
     replace hS := hS.join hN (nw_cons rfl nw_nil)
     simp only [List.cons_append, List.nil_append] at hS
     clear hN
     obtain ⟨IL, hILd⟩ : ∃ IL, IL = imgF (V.g + 1) (recB ca cc cp) := ⟨_, rfl⟩
     rw [← hILd] at hF hS hoc
     have hILb : IL.length ≤ 40000 := by rw [hILd, imgF_len, recB_len, padI]; omega
     refine wpList_stp (stp_gv hF (wanted_none rfl) rfl rfl (gv_assign rfl (hF.t rfl)) fun a hF => ?_)
     refine wpList_nil ?_
     refine then_normal (hKq23 _ _ ?_)
     refine wp_seq_k fun Kq24 hKq24 => ?_
     refine wp_region_lit ?_
     refine wpList_stp (stp_gv hF (wanted_none rfl) rfl rfl (gv_move rfl (hF.t rfl)) fun a hF => ?_)
     refine wpList_stp (stp_gv hF (wanted_none rfl) rfl rfl (gv_nquo (n := 2) rfl (hF.t rfl) rfl (by omega) (by omega)) fun a hF => ?_)
     refine wpList_stp (stp_gv hF (wanted_none rfl) rfl rfl (gv_assign rfl (hF.t rfl)) fun a hF => ?_)
     refine wpList_nil ?_
     refine then_normal (hKq24 _ _ ?_)
     refine wp_seq_k fun Kq25 hKq25 => ?_
     refine wp_seq_k fun Kq26 hKq26 => ?_
     refine wp_region_lit ?_
     refine wpList_stp (stp_gv hF (wanted_none rfl) rfl rfl (gv_move rfl (hF.t rfl)) fun a hF => ?_)
     refine wpList_stp (stp_gv hF (wanted_none rfl) rfl rfl (gv_len rfl Tryd.underlying22 (hF.t rfl)) fun a hF => ?_)
     refine wpList_stp (stp_gv hF (wanted_none rfl) rfl rfl (gv_move rfl (hF.t rfl)) fun a hF => ?_)
     refine wpList_stp (stp_gv hF (wanted_none rfl) rfl rfl (gv_nmul (m := 64) rfl rfl (hF.t rfl) (by omega)) fun a hF => ?_)
     refine wpList_stp (stp_gv hF (wanted_none rfl) rfl rfl (gv_gtr rfl (hF.t rfl) (hF.t rfl)) fun a hF => ?_)
     refine wpList_stp (stp_gv hF (wanted_none rfl) rfl rfl (gv_move rfl (hF.t rfl)) fun a hF => ?_)
     refine wpList_stp (stp_gvG' hF rfl rfl rfl rfl rfl (fun hg => gv_field (r := 1) rfl Tryd.underlying87 rfl rfl Tryd.sz9 (by decide) (hF.t rfl)) fun a hF => ?_)
     refine wpList_stp (stp_gvG' hF rfl rfl rfl rfl rfl (fun hg => gv_load rfl Tryd.underlying9 rfl ((hF.t rfl).trans (if_neg hg)) (cell_ix (j := 1) (hS.cell (k := 5) rfl (rfl)) (by omega))) fun a hF => ?_)
     refine wpList_stp (stp_gvG' hF rfl rfl rfl rfl rfl (fun hg => gv_lenS rfl Tryd.underlying9 ((hF.t rfl).trans (if_neg hg))) fun a hF => ?_)
     refine wpList_stp (stp_gvG' hF rfl rfl rfl rfl rfl (fun hg => gv_gtr rfl ((hF.t rfl).trans (if_neg hg)) (ev_const _ _)) fun a hF => ?_)
     refine wpList_stp (stp_gv hF (wanted_none rfl) rfl rfl (gv_pickOr rfl (hF.t rfl) (ev_const _ _) (hF.t rfl)) fun a hF => ?_)
     refine wpList_stp (stp_gv hF (wanted_none rfl) rfl rfl (gv_move rfl (hF.t rfl)) fun a hF => ?_)
     refine wpList_stp (stp_gvG' hF rfl rfl rfl rfl rfl (fun hg => gv_field (r := 2) rfl Tryd.underlying87 rfl rfl Tryd.sz9 (by decide) (hF.t rfl)) fun a hF => ?_)
     refine wpList_stp (stp_gvG' hF rfl rfl rfl rfl rfl (fun hg => gv_load rfl Tryd.underlying9 rfl ((hF.t rfl).trans (if_neg hg)) (cell_ix (j := 2) (hS.cell (k := 5) rfl (rfl)) (by omega))) fun a hF => ?_)
     refine wpList_stp (stp_gvG' hF rfl rfl rfl rfl rfl (fun hg => gv_lenS rfl Tryd.underlying9 ((hF.t rfl).trans (if_neg hg))) fun a hF => ?_)
     refine wpList_stp (stp_gvG' hF rfl rfl rfl rfl rfl (fun hg => gv_gtr rfl ((hF.t rfl).trans (if_neg hg)) (ev_const _ _)) fun a hF => ?_)
     refine wpList_stp (stp_gv hF (wanted_none rfl) rfl rfl (gv_pickOr rfl (hF.t rfl) (ev_const _ _) (hF.t rfl)) fun a hF => ?_)
     refine wpList_nil ?_
     refine then_normal (hKq26 _ _ ?_)
     refine cond_dec (hF.t rfl) (fun h108 => ?_) (fun h108 => ?_)
     ·
      obtain rfl : S = (22, V, D) := hSv.trans (save_full hK.n4 (by rw [← hILd]; omega))
      simp only at hF hS
      refine wp_seq_k fun Kq27 hKq27 => ?_
      refine wp_seq_k fun Kq28 hKq28 => ?_
      refine wp_region_lit ?_
      refine wpList_stp (stp_gv hF (wanted_none rfl) rfl rfl (gv_move rfl (hF.t rfl)) fun a hF => ?_)
      refine wpList_stp (stp_gv hF (wanted_none rfl) rfl rfl (gv_neqF rfl (hF.t rfl) (ev_const _ _) (fun h => h rfl)) fun a hF => ?_)
      refine wpList_nil ?_
      refine then_normal (hKq28 _ _ ?_)
      refine wp_cond_false (hF.t rfl) ?_
      refine wp_skip ?_
      refine then_normal (hKq27 _ _ ?_)
      refine wp_exit ?_
      refine then_exit ?_
      refine block_exit ?_
      refine then_normal ?_
      replace hS := hS.move (k := 10) rfl
      replace hS := hS.move (k := 10) rfl
      replace hS := hS.move (k := 10) rfl
      replace hS := hS.move (k := 10) rfl
      replace hS := hS.move (k := 10) rfl
      replace hS := hS.move (k := 8) rfl
      replace hS := hS.move (k := 8) rfl
      replace hS := hS.move (k := 8) rfl
      simp only [List.eraseIdx_cons_succ, List.eraseIdx_cons_zero] at hS
      exact ⟨V, D, v, d, p, c, pad, hc1, hc2, hK, hk, hF.sub ⟨rfl, rfl, rfl, rfl, rfl, rfl, rfl, rfl, rfl, rfl, rfl, rfl, rfl, trivial⟩, stTake hS 8 (nw_cons rfl (nw_cons rfl (nw_cons rfl nw_nil)))⟩
     ·
      have hSb := hSv.trans (save_fits hK.n4 (by rw [← hILd]; omega))
      refine wp_skip ?_
      refine then_normal (hKq25 _ _ ?_)
      refine wp_seq_k fun Kq29 hKq29 => ?_
      refine wp_region_lit ?_
      refine wpList_stp (stp_gv hF (wanted_none rfl) rfl rfl (gv_assign rfl (ev_const _ _)) fun a hF => ?_)
      refine wpList_nil ?_
      refine then_normal (hKq29 _ _ ?_)
      refine wp_seq_k fun Kq30 hKq30 => ?_
      refine wp_seq_k fun Kq31 hKq31 => ?_
      refine wp_region_lit ?_
      refine wpList_stp (stp_gv hF (wanted_none rfl) rfl rfl (gv_assign rfl (ev_const _ _)) fun a hF => ?_)
      refine wpList_nil ?_
      refine then_normal (hKq31 _ _ ?_)
      refine wp_block ?_
      obtain ⟨RB, hRB⟩ : ∃ RB, RB = recB ca cc cp := ⟨_, rfl⟩
      rw [← hRB] at hILd hSb
      have hcnt0 : IL.length / 64 = cntF RB + 1 := by rw [hILd]; exact img_cnt _ _
      have hcnt : cntF RB + 1 ≤ n / 2 := by omega
      have hM : (1 - V.k) * (n / 2) + n / 2 ≤ n := by
       have : (1 - V.k) * (n / 2) ≤ 1 * (n / 2) := Nat.mul_le_mul_right _ (by omega)
       omega
      replace hS := hS.move (k := 3) rfl
      replace hS := hS.move (k := 3) rfl
      replace hS := hS.move (k := 3) rfl
      replace hS := hS.move (k := 3) rfl
      replace hS := hS.move (k := 10) rfl
      replace hS := hS.move (k := 10) rfl
      replace hS := hS.move (k := 10) rfl
      replace hS := hS.move (k := 10) rfl
      replace hS := hS.move (k := 10) rfl
      simp only [List.eraseIdx_cons_succ, List.eraseIdx_cons_zero] at hS
      replace hS : St w0 w (⟨true, some sd, blk 4 [.bool ((shC n ((1 - V.k) * (n / 2) + 1) RB D 0).2).dead]⟩ :: ⟨true, some sf, blk 3 [.int .i64 ((shC n ((1 - V.k) * (n / 2) + 1) RB D 0).2).fuel]⟩ :: ⟨true, some sb, blk 22 [.slice (some ⟨bb, 0, none⟩) (64 * n) (64 * n)]⟩ :: ⟨true, some st, blk 3 [vI ((shC n ((1 - V.k) * (n / 2) + 1) RB D 0).2).torn]⟩ :: ⟨true, some bb, blk 5 (((shC n ((1 - V.k) * (n / 2) + 1) RB D 0).2).l.map vB ++ [])⟩ :: ⟨true, some im, blk 5 (IL.map vB ++ op)⟩ :: ⟨true, some v, vltO d S.2.1.g S.2.1.k⟩ :: ⟨true, some d, dskO p n c S.2.2⟩ :: ⟨true, some p, datO S.2.2 pad⟩ :: []) := stTake hS 9 (nw_cons rfl (nw_cons rfl nw_nil))
      refine wp_loop_n (fun mq a w => ∃ q, q ≤ cntF RB ∧ mq = cntF RB - q ∧ Fr 258 a [(0, vI n), (5, .pointer (some ⟨d, 0, none⟩)), (7, .pointer (some ⟨v, 0, none⟩)), (10, .pointer (some ⟨sb, 0, none⟩)), (11, vD V.g), (12, vI V.k), (13, .pointer (some ⟨sf, 0, none⟩)), (14, .pointer (some ⟨st, 0, none⟩)), (15, .pointer (some ⟨sd, 0, none⟩)), (16, .func (.func 37) #[] [.pointer (some ⟨sd, 0, none⟩), .pointer (some ⟨sf, 0, none⟩), .pointer (some ⟨sb, 0, none⟩), .pointer (some ⟨st, 0, none⟩)].toArray), (60, .slice (some ⟨b1, o1, none⟩) cs.length c1), (61, vI cs.length), (62, vI i), (20, .int .i64 (S.1 : Nat)), (21, .slice (some ⟨im, 0, none⟩) IL.length (IL.length + op.length)), (22, vI (n / 2)), (23, .bool (decide ((shC n ((1 - V.k) * (n / 2) + 1) RB D q).1 = 0))), (24, vI (q + 1))] ∧ St w0 w (⟨true, some sd, blk 4 [.bool ((shC n ((1 - V.k) * (n / 2) + 1) RB D q).2).dead]⟩ :: ⟨true, some sf, blk 3 [.int .i64 ((shC n ((1 - V.k) * (n / 2) + 1) RB D q).2).fuel]⟩ :: ⟨true, some sb, blk 22 [.slice (some ⟨bb, 0, none⟩) (64 * n) (64 * n)]⟩ :: ⟨true, some st, blk 3 [vI ((shC n ((1 - V.k) * (n / 2) + 1) RB D q).2).torn]⟩ :: ⟨true, some bb, blk 5 (((shC n ((1 - V.k) * (n / 2) + 1) RB D q).2).l.map vB ++ [])⟩ :: ⟨true, some im, blk 5 (IL.map vB ++ op)⟩ :: ⟨true, some v, vltO d S.2.1.g S.2.1.k⟩ :: ⟨true, some d, dskO p n c S.2.2⟩ :: ⟨true, some p, datO S.2.2 pad⟩ :: [])) (cntF RB) ⟨0, by omega, by omega, hF.sub ⟨rfl, rfl, rfl, rfl, rfl, rfl, rfl, rfl, rfl, rfl, rfl, rfl, rfl, rfl, rfl, rfl, rfl, rfl, trivial⟩, hS⟩ ?_
      rintro mq a w ⟨q, hq, hmq, hF, hS⟩
      refine wp_seq_k fun Kq32 hKq32 => ?_
      refine wp_seq_k fun Kq33 hKq33 => ?_
      refine wp_region_lit ?_
      refine wpList_stp (stp_gv hF (wanted_none rfl) rfl rfl (gv_move rfl (hF.t rfl)) fun a hF => ?_)
      refine wpList_stp (stp_gv hF (wanted_none rfl) rfl rfl (gv_move rfl (hF.t rfl)) fun a hF => ?_)
      refine wpList_stp (stp_gv hF (wanted_none rfl) rfl rfl (gv_len rfl Tryd.underlying22 (hF.t rfl)) fun a hF => ?_)
      refine wpList_stp (stp_gv hF (wanted_none rfl) rfl rfl (gv_nquo (n := 64) rfl (hF.t rfl) rfl (by omega) (by omega)) fun a hF => ?_)
      rw [hcnt0] at hF
      refine wpList_stp (stp_gv hF (wanted_none rfl) rfl rfl (gv_lss rfl (hF.t rfl) (hF.t rfl)) fun a hF => ?_)
      refine wpList_nil ?_
      refine then_normal (hKq33 _ _ ?_)
      refine cond_dec (hF.t rfl) (fun h115 => ?_) (fun h115 => ?_)
      ·
       refine wp_skip ?_
       refine then_normal (hKq32 _ _ ?_)
       refine wp_seq_k fun Kq34 hKq34 => ?_
       refine wp_block ?_
       rcases Decidable.em ((shC n ((1 - V.k) * (n / 2) + 1) RB D q).1 = 0) with hok | hok
       ·
        rw [decide_eq_true hok] at hF
        refine wp_region_lit ?_
        refine wpList_stp (stp_gv hF (wanted_none rfl) rfl rfl (gv_move rfl (hF.t rfl)) fun a hF => ?_)
        refine wpList_stp (stp_gv hF (wanted_none rfl) rfl rfl (gv_move rfl (hF.t rfl)) fun a hF => ?_)
        refine wpList_stp (stp_gv hF (wanted_of hF rfl rfl (rfl)) rfl rfl (gv_move rfl (hF.t rfl)) fun a hF => ?_)
        refine wpList_stp (stp_gv hF (wanted_of hF rfl rfl (rfl)) rfl rfl (gv_move rfl (hF.t rfl)) fun a hF => ?_)
        refine wpList_stp (stp_gv hF (wanted_of hF rfl rfl (rfl)) rfl rfl (gv_nsub (m := 1) rfl rfl (hF.t rfl) (by omega) (by omega)) fun a hF => ?_)
        refine wpList_stp (stp_gv hF (wanted_of hF rfl rfl (rfl)) rfl rfl (gv_move rfl (hF.t rfl)) fun a hF => ?_)
        refine wpList_stp (stp_gv hF (wanted_of hF rfl rfl (rfl)) rfl rfl (gv_nmul rfl (hF.t rfl) (hF.t rfl) (by omega)) fun a hF => ?_)
        refine wpList_stp (stp_gv hF (wanted_of hF rfl rfl (rfl)) rfl rfl (gv_move rfl (hF.t rfl)) fun a hF => ?_)
        refine wpList_stp (stp_gv hF (wanted_of hF rfl rfl (rfl)) rfl rfl (gv_nadd rfl (hF.t rfl) (hF.t rfl) (by omega)) fun a hF => ?_)
        rw [show (1 - V.k) * (n / 2) + (q + 1) = (1 - V.k) * (n / 2) + 1 + q by omega] at hF
        refine wpList_stp (stp_gv hF (wanted_of hF rfl rfl (rfl)) rfl rfl (gv_move rfl (hF.t rfl)) fun a hF => ?_)
        refine wpList_stp (stp_gv hF (wanted_of hF rfl rfl (rfl)) rfl rfl (gv_move rfl (hF.t rfl)) fun a hF => ?_)
        refine wpList_stp (stp_gv hF (wanted_of hF rfl rfl (rfl)) rfl rfl (gv_nmul (m := 64) rfl rfl (hF.t rfl) (by omega)) fun a hF => ?_)
        refine wpList_stp (stp_gv hF (wanted_of hF rfl rfl (rfl)) rfl rfl (gv_move rfl (hF.t rfl)) fun a hF => ?_)
        refine wpList_stp (stp_gv hF (wanted_of hF rfl rfl (rfl)) rfl rfl (gv_nmul (m := 64) rfl rfl (hF.t rfl) (by omega)) fun a hF => ?_)
        refine wpList_stp (stp_gv hF (wanted_of hF rfl rfl (rfl)) rfl rfl (gv_nadd (n := 64) rfl (hF.t rfl) rfl (by omega)) fun a hF => ?_)
        refine wpList_stp (stp_gv hF (wanted_of hF rfl rfl (rfl)) rfl rfl (gv_slice2 rfl Tryd.underlying22 Tryd.sz5 (hF.t rfl) (hF.t rfl) (hF.t rfl) (by omega) (by omega)) fun a hF => ?_)
        have hch : (IL.take (64 * (q + 1) + 64)).drop (64 * (q + 1)) = chunkF RB q := by rw [hILd]; exact img_chunk (by omega)
        have hpv : SRd w0 [⟨true, some im, blk 5 (IL.map vB ++ op)⟩] (cut3V (some ⟨im, 0, none⟩) (64 * (q + 1)) (64 * (q + 1) + 64) (IL.length + op.length)) ((chunkF RB q).map vB) := by
         have := (own_rd (w0 := w0) (T := [⟨true, some im, blk 5 (IL.map vB ++ op)⟩]) (ob := some im) (l := IL) List.mem_cons_self (fun h => by cases h) rfl hoc).cut3 (l := 64 * (q + 1)) (h := 64 * (q + 1) + 64) (mx := IL.length + op.length) (by omega) (by omega) (by omega) (Nat.le_refl _)
         rwa [← List.map_take, ← List.map_drop, hch] at this
        refine wpList_stp (stp_callV (f := 37) (caps := [.pointer (some ⟨sd, 0, none⟩), .pointer (some ⟨sf, 0, none⟩), .pointer (some ⟨sb, 0, none⟩), .pointer (some ⟨st, 0, none⟩)]) hF (wanted_of hF rfl rfl rfl) rfl rfl Tryd.ok37 rfl (hF.t rfl) (Evs.cons (hF.t rfl) (Evs.cons (hF.t rfl) Evs.nil)) (shw_ok (i := (1 - V.k) * (n / 2) + 1 + q) (D := (shC n ((1 - V.k) * (n / 2) + 1) RB D q).2) (x := chunkF RB q) (nw_cons rfl (nw_cons rfl (nw_cons rfl (nw_cons rfl nw_nil)))) hS (shC_ok hK q) (by omega) (hpv.mono (fun e he => by obtain rfl := List.mem_singleton.1 he; exact List.mem_cons_self)) (chunkF_len _ _)) fun e w h => ?_)
        obtain ⟨rfl, hS⟩ := h
        refine ⟨_, rfl, fun a hF => ?_⟩
        refine wpList_stp (stp_gv hF (wanted_none rfl) rfl rfl (gv_pickT rfl (hF.t rfl) (hF.t rfl)) fun a hF => ?_)
        refine wpList_stp (stp_gv hF (wanted_none rfl) rfl rfl (gv_assign rfl (hF.t rfl)) fun a hF => ?_)
        refine wpList_nil ?_
        refine block_normal ?_
        refine then_normal (hKq34 _ _ ?_)
        refine wp_region_lit ?_
        refine wpList_stp (stp_gv hF (wanted_none rfl) rfl rfl (gv_move rfl (hF.t rfl)) fun a hF => ?_)
        refine wpList_stp (stp_gv hF (wanted_none rfl) rfl rfl (gv_nadd (n := 1) rfl (hF.t rfl) rfl (by omega)) fun a hF => ?_)
        refine wpList_stp (stp_gv hF (wanted_none rfl) rfl rfl (gv_assign rfl (hF.t rfl)) fun a hF => ?_)
        refine wpList_nil ?_
        refine then_normal ?_
        rw [← shC_go hok] at hF hS
        exact ⟨mq - 1, by omega, q + 1, by omega, by omega, hF.sub ⟨rfl, rfl, rfl, rfl, rfl, rfl, rfl, rfl, rfl, rfl, rfl, rfl, rfl, rfl, rfl, rfl, rfl, rfl, trivial⟩, hS⟩
       ·
        rw [decide_eq_false hok] at hF
        refine wp_region_lit ?_
        refine wpList_stp (stp_gv hF (wanted_none rfl) rfl rfl (gv_move rfl (hF.t rfl)) fun a hF => ?_)
        refine wpList_stp (stp_gv hF (wanted_none rfl) rfl rfl (gv_move rfl (hF.t rfl)) fun a hF => ?_)
        refine wpList_stp (stp_skip hF (unwanted_of hF rfl rfl (rfl) rfl) rfl rfl fun a hF => ?_)
        refine wpList_stp (stp_skip hF (unwanted_of hF rfl rfl (rfl) rfl) rfl rfl fun a hF => ?_)
        refine wpList_stp (stp_skip hF (unwanted_of hF rfl rfl (rfl) rfl) rfl rfl fun a hF => ?_)
        refine wpList_stp (stp_skip hF (unwanted_of hF rfl rfl (rfl) rfl) rfl rfl fun a hF => ?_)
        refine wpList_stp (stp_skip hF (unwanted_of hF rfl rfl (rfl) rfl) rfl rfl fun a hF => ?_)
        refine wpList_stp (stp_skip hF (unwanted_of hF rfl rfl (rfl) rfl) rfl rfl fun a hF => ?_)
        refine wpList_stp (stp_skip hF (unwanted_of hF rfl rfl (rfl) rfl) rfl rfl fun a hF => ?_)
        refine wpList_stp (stp_skip hF (unwanted_of hF rfl rfl (rfl) rfl) rfl rfl fun a hF => ?_)
        refine wpList_stp (stp_skip hF (unwanted_of hF rfl rfl (rfl) rfl) rfl rfl fun a hF => ?_)
        refine wpList_stp (stp_skip hF (unwanted_of hF rfl rfl (rfl) rfl) rfl rfl fun a hF => ?_)
        refine wpList_stp (stp_skip hF (unwanted_of hF rfl rfl (rfl) rfl) rfl rfl fun a hF => ?_)
        refine wpList_stp (stp_skip hF (unwanted_of hF rfl rfl (rfl) rfl) rfl rfl fun a hF => ?_)
        refine wpList_stp (stp_skip hF (unwanted_of hF rfl rfl (rfl) rfl) rfl rfl fun a hF => ?_)
        refine wpList_stp (stp_skip hF (unwanted_of hF rfl rfl (rfl) rfl) rfl rfl fun a hF => ?_)
        refine wpList_stp (stp_skip hF (unwanted_of hF rfl rfl (rfl) rfl) rfl rfl fun a hF => ?_)
        refine wpList_stp (stp_gv hF (wanted_none rfl) rfl rfl (gv_pickF rfl (hF.t rfl) (ev_const _ _)) fun a hF => ?_)
        refine wpList_stp (stp_gv hF (wanted_none rfl) rfl rfl (gv_assign rfl (hF.t rfl)) fun a hF => ?_)
        refine wpList_nil ?_
        refine block_normal ?_
        refine then_normal (hKq34 _ _ ?_)
        refine wp_region_lit ?_
        refine wpList_stp (stp_gv hF (wanted_none rfl) rfl rfl (gv_move rfl (hF.t rfl)) fun a hF => ?_)
        refine wpList_stp (stp_gv hF (wanted_none rfl) rfl rfl (gv_nadd (n := 1) rfl (hF.t rfl) rfl (by omega)) fun a hF => ?_)
        refine wpList_stp (stp_gv hF (wanted_none rfl) rfl rfl (gv_assign rfl (hF.t rfl)) fun a hF => ?_)
        refine wpList_nil ?_
        refine then_normal ?_
        rw [← shC_stay hok] at hS hok
        exact ⟨mq - 1, by omega, q + 1, by omega, by omega, by rw [decide_eq_false hok]; exact hF.sub ⟨rfl, rfl, rfl, rfl, rfl, rfl, rfl, rfl, rfl, rfl, rfl, rfl, rfl, rfl, rfl, rfl, rfl, rfl, trivial⟩, hS⟩
      ·
       refine wp_exit ?_
       refine then_exit ?_
       refine then_exit ?_
       refine block_exit ?_
       refine then_normal (hKq30 _ _ ?_)
       obtain rfl : q = cntF RB := by omega
       have hpv : SRd w0 [⟨true, some im, blk 5 (IL.map vB ++ op)⟩] (.slice (some ⟨im, 0, none⟩) 64 (IL.length + op.length)) ((headF (V.g + 1) RB).map vB) := by
        have := (own_rd (w0 := w0) (T := [⟨true, some im, blk 5 (IL.map vB ++ op)⟩]) (ob := some im) (l := IL) List.mem_cons_self (fun h => by cases h) rfl hoc).cutHi (hi := 64) (by omega)
        rwa [← List.map_take, show IL.take 64 = headF (V.g + 1) RB by rw [hILd]; exact img_head _ _] at this
       rcases runs_save (V := V) (b := RB) hK hM hcnt with ⟨hok, hok2, hs⟩ | ⟨hok, hok2, hs⟩ | ⟨hok, hs⟩
       ·
        rw [decide_eq_true hok] at hF
        obtain rfl := hSb.trans hs
        simp only at hF hS
        refine wp_seq_k fun Kq35 hKq35 => ?_
        refine wp_region_lit ?_
        refine wpList_stp (stp_gv hF (wanted_none rfl) rfl rfl (gv_move rfl (hF.t rfl)) fun a hF => ?_)
        refine wpList_stp (stp_gv hF (wanted_none rfl) rfl rfl (gv_move rfl (hF.t rfl)) fun a hF => ?_)
        refine wpList_stp (stp_gv hF (wanted_of hF rfl rfl (rfl)) rfl rfl (gv_move rfl (hF.t rfl)) fun a hF => ?_)
        refine wpList_stp (stp_gv hF (wanted_of hF rfl rfl (rfl)) rfl rfl (gv_move rfl (hF.t rfl)) fun a hF => ?_)
        refine wpList_stp (stp_gv hF (wanted_of hF rfl rfl (rfl)) rfl rfl (gv_nsub (m := 1) rfl rfl (hF.t rfl) (by omega) (by omega)) fun a hF => ?_)
        refine wpList_stp (stp_gv hF (wanted_of hF rfl rfl (rfl)) rfl rfl (gv_move rfl (hF.t rfl)) fun a hF => ?_)
        refine wpList_stp (stp_gv hF (wanted_of hF rfl rfl (rfl)) rfl rfl (gv_nmul rfl (hF.t rfl) (hF.t rfl) (by omega)) fun a hF => ?_)
        refine wpList_stp (stp_gv hF (wanted_of hF rfl rfl (rfl)) rfl rfl (gv_move rfl (hF.t rfl)) fun a hF => ?_)
        refine wpList_stp (stp_gv hF (wanted_of hF rfl rfl (rfl)) rfl rfl (gv_sliceHi (hi := 64) rfl Tryd.underlying22 Tryd.sz5 (hF.t rfl) rfl (by omega)) fun a hF => ?_)
        refine wpList_stp (stp_callV (f := 37) (caps := [.pointer (some ⟨sd, 0, none⟩), .pointer (some ⟨sf, 0, none⟩), .pointer (some ⟨sb, 0, none⟩), .pointer (some ⟨st, 0, none⟩)]) hF (wanted_of hF rfl rfl rfl) rfl rfl Tryd.ok37 rfl (hF.t rfl) (Evs.cons (hF.t rfl) (Evs.cons (hF.t rfl) Evs.nil)) (shw_ok (i := (1 - V.k) * (n / 2)) (D := (shC n ((1 - V.k) * (n / 2) + 1) RB D (cntF RB)).2) (x := headF (V.g + 1) RB) (nw_cons rfl (nw_cons rfl (nw_cons rfl (nw_cons rfl nw_nil)))) hS (shC_ok hK _) (by omega) (hpv.mono (fun e he => by obtain rfl := List.mem_singleton.1 he; exact List.mem_cons_self)) (headF_len _ _)) fun e w h => ?_)
        obtain ⟨rfl, hS⟩ := h
        refine ⟨_, rfl, fun a hF => ?_⟩
        rw [decide_eq_true hok2] at hF
        refine wpList_stp (stp_gv hF (wanted_none rfl) rfl rfl (gv_pickT rfl (hF.t rfl) (hF.t rfl)) fun a hF => ?_)
        refine wpList_stp (stp_gv hF (wanted_none rfl) rfl rfl (gv_assign rfl (hF.t rfl)) fun a hF => ?_)
        refine wpList_nil ?_
        refine then_normal (hKq35 _ _ ?_)
        refine wp_seq_k fun Kq36 hKq36 => ?_
        refine wp_seq_k fun Kq37 hKq37 => ?_
        refine wp_region_lit ?_
        refine wpList_stp (stp_gv hF (wanted_none rfl) rfl rfl (gv_move rfl (hF.t rfl)) fun a hF => ?_)
        refine wpList_stp (stp_gv hF (wanted_none rfl) rfl rfl (gv_move rfl (hF.t rfl)) fun a hF => ?_)
        refine wpList_stp (stp_gv hF (wanted_none rfl) rfl rfl (gv_eqlT rfl (hF.t rfl) (ev_const _ _) (rfl)) fun a hF => ?_)
        refine wpList_stp (stp_gv hF (wanted_none rfl) rfl rfl (gv_boolNeq rfl Tryd.underlying4 (hF.t rfl) (hF.t rfl)) fun a hF => ?_)
        rw [show decide (true ≠ true) = false from rfl] at hF
        refine wpList_stp (stp_gv hF (wanted_none rfl) rfl rfl (gv_move rfl (hF.t rfl)) fun a hF => ?_)
        refine wpList_stp (stp_gv hF (wanted_of hF rfl rfl (rfl)) rfl rfl (gv_move rfl (hF.t rfl)) fun a hF => ?_)
        refine wpList_stp (stp_gv hF (wanted_of hF rfl rfl (rfl)) rfl rfl (gv_not rfl (hF.t rfl)) fun a hF => ?_)
        refine wpList_stp (stp_gv hF (wanted_of hF rfl rfl (rfl)) rfl rfl (gv_move rfl (hF.t rfl)) fun a hF => ?_)
        refine wpList_stp (stp_skip hF (unwanted_of hF rfl rfl (rfl) rfl) rfl rfl fun a hF => ?_)
        refine wpList_stp (stp_skip hF (unwanted_of hF rfl rfl (rfl) rfl) rfl rfl fun a hF => ?_)
        refine wpList_stp (stp_gv hF (wanted_of hF rfl rfl (rfl)) rfl rfl (gv_pickF rfl (hF.t rfl) (ev_const _ _)) fun a hF => ?_)
        refine wpList_stp (stp_gv hF (wanted_none rfl) rfl rfl (gv_pickF rfl (hF.t rfl) (hF.t rfl)) fun a hF => ?_)
        refine wpList_nil ?_
        refine then_normal (hKq37 _ _ ?_)
        refine wp_cond_false (hF.t rfl) ?_
        refine wp_skip ?_
        refine then_normal (hKq36 _ _ ?_)
        refine wp_seq_k fun Kq38 hKq38 => ?_
        refine wp_region_lit ?_
        refine wpList_stp (stp_gv hF (wanted_none rfl) rfl rfl (gv_move rfl (hF.t rfl)) fun a hF => ?_)
        refine wpList_nil ?_
        refine then_normal (hKq38 _ _ ?_)
        refine wp_cond_true (hF.t rfl) ?_
        refine wp_region_lit ?_
        refine wpList_stp (stp_gv hF (wanted_none rfl) rfl rfl (gv_move rfl (hF.t rfl)) fun a hF => ?_)
        refine wpList_stp (stp_gv hF (wanted_none rfl) rfl rfl (gv_d_add (n := 1) rfl (hF.t rfl) rfl) fun a hF => ?_)
        refine wpList_stp (stp_gv hF (wanted_none rfl) rfl rfl (gv_move rfl (hF.t rfl)) fun a hF => ?_)
        refine wpList_stp (stp_gv hF (wanted_none rfl) rfl rfl (gv_nsub (m := 1) rfl rfl (hF.t rfl) (by omega) (by omega)) fun a hF => ?_)
        refine wpList_stp (stp_gv hF (wanted_none rfl) rfl rfl (gv_assign rfl (hF.t rfl)) fun a hF => ?_)
        refine wpList_stp (stp_gv hF (wanted_none rfl) rfl rfl (gv_assign rfl (hF.t rfl)) fun a hF => ?_)
        refine wpList_nil ?_
        refine block_normal ?_
        refine then_normal ?_
        replace hS := hS.move (k := 4) rfl
        replace hS := hS.move (k := 4) rfl
        replace hS := hS.move (k := 4) rfl
        replace hS := hS.move (k := 4) rfl
        replace hS := hS.move (k := 4) rfl
        replace hS := hS.move (k := 8) rfl
        replace hS := hS.move (k := 8) rfl
        replace hS := hS.move (k := 8) rfl
        simp only [List.eraseIdx_cons_succ, List.eraseIdx_cons_zero] at hS
        exact ⟨⟨V.g + 1, 1 - V.k⟩, _, v, d, p, c, pad, hc1, hc2, wrF_ok (shC_ok hK _) (headF_len _ _), (by show 1 - V.k ≤ 1; omega), hF.sub ⟨rfl, rfl, rfl, rfl, rfl, rfl, rfl, rfl, rfl, rfl, rfl, rfl, rfl, trivial⟩, stTake hS 8 (nw_cons rfl nw_nil)⟩
       ·
        rw [decide_eq_true hok] at hF
        obtain rfl := hSb.trans hs
        simp only at hF hS
        refine wp_seq_k fun Kq39 hKq39 => ?_
        refine wp_region_lit ?_
        refine wpList_stp (stp_gv hF (wanted_none rfl) rfl rfl (gv_move rfl (hF.t rfl)) fun a hF => ?_)
        refine wpList_stp (stp_gv hF (wanted_none rfl) rfl rfl (gv_move rfl (hF.t rfl)) fun a hF => ?_)
        refine wpList_stp (stp_gv hF (wanted_of hF rfl rfl (rfl)) rfl rfl (gv_move rfl (hF.t rfl)) fun a hF => ?_)
        refine wpList_stp (stp_gv hF (wanted_of hF rfl rfl (rfl)) rfl rfl (gv_move rfl (hF.t rfl)) fun a hF => ?_)
        refine wpList_stp (stp_gv hF (wanted_of hF rfl rfl (rfl)) rfl rfl (gv_nsub (m := 1) rfl rfl (hF.t rfl) (by omega) (by omega)) fun a hF => ?_)
        refine wpList_stp (stp_gv hF (wanted_of hF rfl rfl (rfl)) rfl rfl (gv_move rfl (hF.t rfl)) fun a hF => ?_)
        refine wpList_stp (stp_gv hF (wanted_of hF rfl rfl (rfl)) rfl rfl (gv_nmul rfl (hF.t rfl) (hF.t rfl) (by omega)) fun a hF => ?_)
        refine wpList_stp (stp_gv hF (wanted_of hF rfl rfl (rfl)) rfl rfl (gv_move rfl (hF.t rfl)) fun a hF => ?_)
        refine wpList_stp (stp_gv hF (wanted_of hF rfl rfl (rfl)) rfl rfl (gv_sliceHi (hi := 64) rfl Tryd.underlying22 Tryd.sz5 (hF.t rfl) rfl (by omega)) fun a hF => ?_)
        refine wpList_stp (stp_callV (f := 37) (caps := [.pointer (some ⟨sd, 0, none⟩), .pointer (some ⟨sf, 0, none⟩), .pointer (some ⟨sb, 0, none⟩), .pointer (some ⟨st, 0, none⟩)]) hF (wanted_of hF rfl rfl rfl) rfl rfl Tryd.ok37 rfl (hF.t rfl) (Evs.cons (hF.t rfl) (Evs.cons (hF.t rfl) Evs.nil)) (shw_ok (i := (1 - V.k) * (n / 2)) (D := (shC n ((1 - V.k) * (n / 2) + 1) RB D (cntF RB)).2) (x := headF (V.g + 1) RB) (nw_cons rfl (nw_cons rfl (nw_cons rfl (nw_cons rfl nw_nil)))) hS (shC_ok hK _) (by omega) (hpv.mono (fun e he => by obtain rfl := List.mem_singleton.1 he; exact List.mem_cons_self)) (headF_len _ _)) fun e w h => ?_)
        obtain ⟨rfl, hS⟩ := h
        refine ⟨_, rfl, fun a hF => ?_⟩
        rw [decide_eq_false hok2] at hF
        refine wpList_stp (stp_gv hF (wanted_none rfl) rfl rfl (gv_pickT rfl (hF.t rfl) (hF.t rfl)) fun a hF => ?_)
        refine wpList_stp (stp_gv hF (wanted_none rfl) rfl rfl (gv_assign rfl (hF.t rfl)) fun a hF => ?_)
        refine wpList_nil ?_
        refine then_normal (hKq39 _ _ ?_)
        refine wp_seq_k fun Kq40 hKq40 => ?_
        refine wp_seq_k fun Kq41 hKq41 => ?_
        refine wp_region_lit ?_
        refine wpList_stp (stp_gv hF (wanted_none rfl) rfl rfl (gv_move rfl (hF.t rfl)) fun a hF => ?_)
        refine wpList_stp (stp_gv hF (wanted_none rfl) rfl rfl (gv_move rfl (hF.t rfl)) fun a hF => ?_)
        refine wpList_stp (stp_gv hF (wanted_none rfl) rfl rfl (gv_eqlF rfl (hF.t rfl) (ev_const _ _) (by decide)) fun a hF => ?_)
        refine wpList_stp (stp_gv hF (wanted_none rfl) rfl rfl (gv_boolNeq rfl Tryd.underlying4 (hF.t rfl) (hF.t rfl)) fun a hF => ?_)
        rw [show decide (false ≠ false) = false from rfl] at hF
        refine wpList_stp (stp_gv hF (wanted_none rfl) rfl rfl (gv_move rfl (hF.t rfl)) fun a hF => ?_)
        refine wpList_stp (stp_gv hF (wanted_of hF rfl rfl (rfl)) rfl rfl (gv_move rfl (hF.t rfl)) fun a hF => ?_)
        refine wpList_stp (stp_gv hF (wanted_of hF rfl rfl (rfl)) rfl rfl (gv_not rfl (hF.t rfl)) fun a hF => ?_)
        refine wpList_stp (stp_gv hF (wanted_of hF rfl rfl (rfl)) rfl rfl (gv_move rfl (hF.t rfl)) fun a hF => ?_)
        refine wpList_stp (stp_gv hF (wanted_of hF rfl rfl (rfl)) rfl rfl (gv_move rfl (hF.t rfl)) fun a hF => ?_)
        refine wpList_stp (stp_gv hF (wanted_of hF rfl rfl (rfl)) rfl rfl (gv_neqF rfl (hF.t rfl) (ev_const _ _) (fun h => h rfl)) fun a hF => ?_)
        refine wpList_stp (stp_gv hF (wanted_of hF rfl rfl (rfl)) rfl rfl (gv_pickT rfl (hF.t rfl) (hF.t rfl)) fun a hF => ?_)
        refine wpList_stp (stp_gv hF (wanted_none rfl) rfl rfl (gv_pickF rfl (hF.t rfl) (hF.t rfl)) fun a hF => ?_)
        refine wpList_nil ?_
        refine then_normal (hKq41 _ _ ?_)
        refine wp_cond_false (hF.t rfl) ?_
        refine wp_skip ?_
        refine then_normal (hKq40 _ _ ?_)
        refine wp_seq_k fun Kq42 hKq42 => ?_
        refine wp_region_lit ?_
        refine wpList_stp (stp_gv hF (wanted_none rfl) rfl rfl (gv_move rfl (hF.t rfl)) fun a hF => ?_)
        refine wpList_nil ?_
        refine then_normal (hKq42 _ _ ?_)
        refine wp_cond_false (hF.t rfl) ?_
        refine wp_skip ?_
        refine block_normal ?_
        refine then_normal ?_
        replace hS := hS.move (k := 4) rfl
        replace hS := hS.move (k := 4) rfl
        replace hS := hS.move (k := 4) rfl
        replace hS := hS.move (k := 4) rfl
        replace hS := hS.move (k := 4) rfl
        replace hS := hS.move (k := 8) rfl
        replace hS := hS.move (k := 8) rfl
        replace hS := hS.move (k := 8) rfl
        simp only [List.eraseIdx_cons_succ, List.eraseIdx_cons_zero] at hS
        exact ⟨V, _, v, d, p, c, pad, hc1, hc2, wrF_ok (shC_ok hK _) (headF_len _ _), hk, hF.sub ⟨rfl, rfl, rfl, rfl, rfl, rfl, rfl, rfl, rfl, rfl, rfl, rfl, rfl, trivial⟩, stTake hS 8 (nw_cons rfl nw_nil)⟩
       ·
        rw [decide_eq_false hok] at hF
        obtain rfl := hSb.trans hs
        simp only at hF hS
        refine wp_seq_k fun Kq43 hKq43 => ?_
        refine wp_region_lit ?_
        refine wpList_stp (stp_gv hF (wanted_none rfl) rfl rfl (gv_move rfl (hF.t rfl)) fun a hF => ?_)
        refine wpList_stp (stp_gv hF (wanted_none rfl) rfl rfl (gv_move rfl (hF.t rfl)) fun a hF => ?_)
        refine wpList_stp (stp_skip hF (unwanted_of hF rfl rfl (rfl) rfl) rfl rfl fun a hF => ?_)
        refine wpList_stp (stp_skip hF (unwanted_of hF rfl rfl (rfl) rfl) rfl rfl fun a hF => ?_)
        refine wpList_stp (stp_skip hF (unwanted_of hF rfl rfl (rfl) rfl) rfl rfl fun a hF => ?_)
        refine wpList_stp (stp_skip hF (unwanted_of hF rfl rfl (rfl) rfl) rfl rfl fun a hF => ?_)
        refine wpList_stp (stp_skip hF (unwanted_of hF rfl rfl (rfl) rfl) rfl rfl fun a hF => ?_)
        refine wpList_stp (stp_skip hF (unwanted_of hF rfl rfl (rfl) rfl) rfl rfl fun a hF => ?_)
        refine wpList_stp (stp_skip hF (unwanted_of hF rfl rfl (rfl) rfl) rfl rfl fun a hF => ?_)
        refine wpList_stp (stp_skip hF (unwanted_of hF rfl rfl (rfl) rfl) rfl rfl fun a hF => ?_)
        refine wpList_stp (stp_gv hF (wanted_none rfl) rfl rfl (gv_pickF rfl (hF.t rfl) (ev_const _ _)) fun a hF => ?_)
        refine wpList_stp (stp_gv hF (wanted_none rfl) rfl rfl (gv_assign rfl (hF.t rfl)) fun a hF => ?_)
        refine wpList_nil ?_
        refine then_normal (hKq43 _ _ ?_)
        refine wp_seq_k fun Kq44 hKq44 => ?_
        refine wp_seq_k fun Kq45 hKq45 => ?_
        refine wp_region_lit ?_
        refine wpList_stp (stp_gv hF (wanted_none rfl) rfl rfl (gv_move rfl (hF.t rfl)) fun a hF => ?_)
        refine wpList_stp (stp_gv hF (wanted_none rfl) rfl rfl (gv_move rfl (hF.t rfl)) fun a hF => ?_)
        refine wpList_stp (stp_gv hF (wanted_none rfl) rfl rfl (gv_eqlF rfl (hF.t rfl) (ev_const _ _) (by decide)) fun a hF => ?_)
        refine wpList_stp (stp_gv hF (wanted_none rfl) rfl rfl (gv_boolNeq rfl Tryd.underlying4 (hF.t rfl) (hF.t rfl)) fun a hF => ?_)
        rw [show decide (false ≠ false) = false from rfl] at hF
        refine wpList_stp (stp_gv hF (wanted_none rfl) rfl rfl (gv_move rfl (hF.t rfl)) fun a hF => ?_)
        refine wpList_stp (stp_gv hF (wanted_of hF rfl rfl (rfl)) rfl rfl (gv_move rfl (hF.t rfl)) fun a hF => ?_)
        refine wpList_stp (stp_gv hF (wanted_of hF rfl rfl (rfl)) rfl rfl (gv_not rfl (hF.t rfl)) fun a hF => ?_)
        refine wpList_stp (stp_gv hF (wanted_of hF rfl rfl (rfl)) rfl rfl (gv_move rfl (hF.t rfl)) fun a hF => ?_)
        refine wpList_stp (stp_gv hF (wanted_of hF rfl rfl (rfl)) rfl rfl (gv_move rfl (hF.t rfl)) fun a hF => ?_)
        refine wpList_stp (stp_gv hF (wanted_of hF rfl rfl (rfl)) rfl rfl (gv_neqF rfl (hF.t rfl) (ev_const _ _) (fun h => h rfl)) fun a hF => ?_)
        refine wpList_stp (stp_gv hF (wanted_of hF rfl rfl (rfl)) rfl rfl (gv_pickT rfl (hF.t rfl) (hF.t rfl)) fun a hF => ?_)
        refine wpList_stp (stp_gv hF (wanted_none rfl) rfl rfl (gv_pickF rfl (hF.t rfl) (hF.t rfl)) fun a hF => ?_)
        refine wpList_nil ?_
        refine then_normal (hKq45 _ _ ?_)
        refine wp_cond_false (hF.t rfl) ?_
        refine wp_skip ?_
        refine then_normal (hKq44 _ _ ?_)
        refine wp_seq_k fun Kq46 hKq46 => ?_
        refine wp_region_lit ?_
        refine wpList_stp (stp_gv hF (wanted_none rfl) rfl rfl (gv_move rfl (hF.t rfl)) fun a hF => ?_)
        refine wpList_nil ?_
        refine then_normal (hKq46 _ _ ?_)
        refine wp_cond_false (hF.t rfl) ?_
        refine wp_skip ?_
        refine block_normal ?_
        refine then_normal ?_
        replace hS := hS.move (k := 4) rfl
        replace hS := hS.move (k := 4) rfl
        replace hS := hS.move (k := 4) rfl
        replace hS := hS.move (k := 4) rfl
        replace hS := hS.move (k := 4) rfl
        replace hS := hS.move (k := 8) rfl
        replace hS := hS.move (k := 8) rfl
        replace hS := hS.move (k := 8) rfl
        simp only [List.eraseIdx_cons_succ, List.eraseIdx_cons_zero] at hS
        exact ⟨V, _, v, d, p, c, pad, hc1, hc2, shC_ok hK _, hk, hF.sub ⟨rfl, rfl, rfl, rfl, rfl, rfl, rfl, rfl, rfl, rfl, rfl, rfl, rfl, trivial⟩, stTake hS 8 (nw_cons rfl nw_nil)⟩
    ·
     refine wp_seq_k fun Kq47 hKq47 => ?_
     refine wp_region_lit ?_
     refine wpList_stp (stp_gv hF (wanted_none rfl) rfl rfl (gv_eql rfl (hF.t rfl) (ev_const _ _)) fun a hF => ?_)
     refine wpList_stp (stp_gv hF (wanted_none rfl) rfl rfl (gv_assign rfl (hF.t rfl)) fun a hF => ?_)
     refine wpList_nil ?_
     refine then_normal (hKq47 _ _ ?_)
     refine cond_dec (hF.t rfl) (fun h164 => ?_) (fun h164 => ?_)
     ·
      refine wp_seq_k fun Kq48 hKq48 => ?_
      refine wp_region_lit ?_
      refine wpList_stp (stp_gv hF (wanted_none rfl) rfl rfl (gv_move rfl (hF.t rfl)) fun a hF => ?_)
      refine wpList_stp (stp_gv hF (wanted_none rfl) rfl rfl (gv_field (r := 4) rfl Tryd.underlying87 rfl rfl Tryd.sz3 (by decide) (hF.t rfl)) fun a hF => ?_)
      refine wpList_stp (stp_gv hF (wanted_none rfl) rfl rfl (gv_load rfl Tryd.underlying3 rfl (hF.t rfl) (cell_ix (j := 4) (hS.cell (k := 0) rfl (rfl)) (by omega))) fun a hF => ?_)
      refine wpList_stp (stp_gv hF (wanted_none rfl) rfl rfl (gv_field (r := 5) rfl Tryd.underlying87 rfl rfl Tryd.sz3 (by decide) (hF.t rfl)) fun a hF => ?_)
      refine wpList_stp (stp_gv hF (wanted_none rfl) rfl rfl (gv_load rfl Tryd.underlying3 rfl (hF.t rfl) (cell_ix (j := 5) (hS.cell (k := 0) rfl (rfl)) (by omega))) fun a hF => ?_)
      replace hS := hS.move (k := 3) rfl
      replace hS := hS.move (k := 3) rfl
      simp only [List.eraseIdx_cons_succ, List.eraseIdx_cons_zero] at hS
      refine wpList_stp (stp_call hF (wanted_none rfl) rfl rfl Tryd.ok39 rfl (Evs.cons (hF.t rfl) (Evs.cons (hF.t rfl) (Evs.cons (hF.t rfl) Evs.nil))) (fuel_ok (i := cn) (j := ct) hS) fun e w h => ?_)
      obtain ⟨rfl, hS⟩ := h
      refine ⟨_, rfl, fun a hF => ?_⟩
      refine wpList_nil ?_
      refine then_normal (hKq48 _ _ ?_)
      refine Fw.wp_region_draw (by kernel_rfl) fun w hx => ?_
      replace hS := hS.ext hx
      clear hx
      refine run_headU (n := 9) _ [7, 8] [7, 8] (fun s_ x => ∃ l1 l2 : List Value, l1.length = 1 ∧ l2.length = 1 ∧ (1 ≤ s_ → l1 = [.int .i64 (max cn (-1))]) ∧ (s_ = 2 → l2 = [.int .i64 (max 0 (min ct 64))]) ∧ St w0 x [⟨true, some d, dskO p n c (fuelF D cn ct)⟩, ⟨true, some p, datO (fuelF D cn ct) pad⟩, ⟨true, some cx, blk 87 [.int .i64 kd, sV ca, sV cc, .bool cp, .int .i64 cn, .int .i64 ct]⟩, ⟨true, some v, vltO d V.g V.k⟩, ⟨true, some sd, blk 4 [.bool D.dead]⟩, ⟨true, some sf, blk 3 l1⟩, ⟨true, some sb, blk 22 [.slice (some ⟨bb, 0, none⟩) (64 * n) (64 * n)]⟩, ⟨true, some st, blk 3 l2⟩, ⟨true, some bb, blk 5 (D.l.map vB ++ [])⟩]) [(1, 173, FtE (.int .i64 cn)), (2, 174, FtE (.int .i64 (max cn (-1)))), (4, 176, FtE (.int .i64 ct)), (5, 177, FtE (.int .i64 (min ct 64))), (6, 178, FtE (.int .i64 (max 0 (min ct 64))))] hF (hS.toExt (nw_cons rfl (nw_cons rfl (nw_cons rfl (nw_cons rfl (nw_cons rfl (nw_cons rfl (nw_cons rfl (nw_cons rfl (nw_cons rfl nw_nil)))))))))) (⟨_, _, rfl, rfl, (fun h => absurd h (by decide)), (fun h => by cases h), hS⟩) (fun _ _ _ ⟨l1, l2, h1, h2, h3, h4, h5⟩ hx => ⟨l1, l2, h1, h2, h3, h4, h5.ext hx⟩) (by kernel_rfl) rfl (fa_cons rfl (fa_cons rfl (fa_cons rfl (fa_cons rfl (fa_cons rfl fa_nil))))) (fa_cons (FtE.lasts _) (fa_cons (FtE.lasts _) (fa_cons (FtE.lasts _) (fa_cons (FtE.lasts _) (fa_cons (FtE.lasts _) fa_nil))))) (fa_cons ⟨Nat.zero_le _, Nat.le_of_ble_eq_true rfl⟩ (fa_cons ⟨Nat.zero_le _, Nat.le_of_ble_eq_true rfl⟩ (fa_cons ⟨Nat.zero_le _, Nat.le_of_ble_eq_true rfl⟩ (fa_cons ⟨Nat.zero_le _, Nat.le_of_ble_eq_true rfl⟩ (fa_cons ⟨Nat.zero_le _, Nat.le_of_ble_eq_true rfl⟩ fa_nil))))) rfl (by kernel_rfl) (by kernel_rfl) ?_
      refine dw_gv hF rfl (wanted_none rfl) rfl rfl (fun w hx => gv_field (r := 4) rfl Tryd.underlying87 rfl rfl Tryd.sz3 (by decide) (hF.t rfl)) fun a hF => ?_
      refine dw_fl rfl ?_
      refine dw_fl rfl ?_
      refine dw_gv hF rfl (wanted_none rfl) rfl rfl (fun w hx => gv_field (r := 5) rfl Tryd.underlying87 rfl rfl Tryd.sz3 (by decide) (hF.t rfl)) fun a hF => ?_
      refine dw_fl rfl ?_
      refine dw_fl rfl ?_
      refine dw_fl rfl ?_
      refine dw_fl rfl ?_
      refine dw_fl rfl ?_
      refine dw_nil ⟨(fa_cons ?_ (fa_cons ?_ (fa_cons ?_ (fa_cons ?_ (fa_cons ?_ fa_nil))))), (fa_cons ?_ (fa_cons ?_ fa_nil)), fun a w hx hA hR hP => ?_⟩
      ·
       intro s_ a w hsl hx hA hdp hP
       replace hF := hA _ hF
       obtain ⟨l1, l2, _, _, _, _, hS⟩ := hP
       exact ⟨_, rfl, .inl ⟨show (1 : Nat) ∉ [7, 8] from by decide, sx_gv (wanted_none rfl) (gv_load rfl Tryd.underlying3 rfl (hF.t rfl) (cell_ix (j := 4) (hS.cell (k := 2) rfl rfl) (by omega))) rfl⟩⟩
      ·
       intro s_ a w hsl hx hA hdp hP
       replace hF := hA _ hF
       exact ⟨_, rfl, .inl ⟨show (2 : Nat) ∉ [7, 8] from by decide, sx_gv (wanted_none rfl) (gv_imax rfl ((hF.t rfl).trans (hdp _ (List.mem_of_getElem? (i := 0) rfl) (by kernel_rfl))) (ev_const _ _)) rfl⟩⟩
      ·
       intro s_ a w hsl hx hA hdp hP
       replace hF := hA _ hF
       obtain ⟨l1, l2, _, _, _, _, hS⟩ := hP
       exact ⟨_, rfl, .inl ⟨show (4 : Nat) ∉ [7, 8] from by decide, sx_gv (wanted_none rfl) (gv_load rfl Tryd.underlying3 rfl (hF.t rfl) (cell_ix (j := 5) (hS.cell (k := 2) rfl rfl) (by omega))) rfl⟩⟩
      ·
       intro s_ a w hsl hx hA hdp hP
       replace hF := hA _ hF
       exact ⟨_, rfl, .inl ⟨show (5 : Nat) ∉ [7, 8] from by decide, sx_gv (wanted_none rfl) (gv_imin rfl ((hF.t rfl).trans (hdp _ (List.mem_of_getElem? (i := 2) rfl) (by kernel_rfl))) (ev_const _ _)) rfl⟩⟩
      ·
       intro s_ a w hsl hx hA hdp hP
       replace hF := hA _ hF
       exact ⟨_, rfl, .inl ⟨show (6 : Nat) ∉ [7, 8] from by decide, sx_gv (wanted_none rfl) (gv_imax rfl (ev_const _ _) ((hF.t rfl).trans (hdp _ (List.mem_of_getElem? (i := 3) rfl) (by kernel_rfl)))) rfl⟩⟩
      ·
       intro s_ a w hsl hx hA hdp hP
       replace hF := hA _ hF
       refine ⟨_, 0, rfl, rfl, fun hs => ?_⟩
       subst hs
       obtain ⟨l1, l2, q1, q2, q3, q4, hS⟩ := hP
       refine ux_storeOne (i := 0) (cs := l1) (wanted_none rfl) rfl Tryd.sz3 (hF.t rfl) ((hF.t rfl).trans (hdp _ (List.mem_of_getElem? (i := 1) rfl) (by kernel_rfl))) rfl hS (k := 5) rfl (by rw [q1]; decide) fun w' hS' => ?_
       exact ⟨hS'.toExt (nw_cons rfl (nw_cons rfl (nw_cons rfl (nw_cons rfl (nw_cons rfl (nw_cons rfl (nw_cons rfl (nw_cons rfl (nw_cons rfl nw_nil))))))))), ⟨_, l2, by simp [q1], q2, (fun _ => set_one q1), (fun h => by cases h), hS'⟩, (fa_cons id (fa_cons id (fa_cons id (fa_cons id (fa_cons id fa_nil)))))⟩
      ·
       intro s_ a w hsl hx hA hdp hP
       replace hF := hA _ hF
       refine ⟨_, 1, rfl, rfl, fun hs => ?_⟩
       subst hs
       obtain ⟨l1, l2, q1, q2, q3, q4, hS⟩ := hP
       refine ux_storeOne (i := 0) (cs := l2) (wanted_none rfl) rfl Tryd.sz3 (hF.t rfl) ((hF.t rfl).trans (hdp _ (List.mem_of_getElem? (i := 4) rfl) (by kernel_rfl))) rfl hS (k := 7) rfl (by rw [q2]; decide) fun w' hS' => ?_
       exact ⟨hS'.toExt (nw_cons rfl (nw_cons rfl (nw_cons rfl (nw_cons rfl (nw_cons rfl (nw_cons rfl (nw_cons rfl (nw_cons rfl (nw_cons rfl nw_nil))))))))), ⟨l1, _, q1, by simp [q2], (fun _ => q3 (by decide)), (fun _ => set_one q2), hS'⟩, (fa_cons id (fa_cons id (fa_cons id (fa_cons id (fa_cons id fa_nil)))))⟩
      replace hF := hA _ hF
      clear hA
      obtain ⟨l1, l2, _, _, q3, q4, hS⟩ := hP
      obtain rfl := q3 (by decide)
      obtain rfl := q4 rfl
      clear hR q3 q4
      replace hF : Fr 258 a [(0, vI n), (5, .pointer (some ⟨d, 0, none⟩)), (7, .pointer (some ⟨v, 0, none⟩)), (10, .pointer (some ⟨sb, 0, none⟩)), (11, vD V.g), (12, vI V.k), (13, .pointer (some ⟨sf, 0, none⟩)), (14, .pointer (some ⟨st, 0, none⟩)), (15, .pointer (some ⟨sd, 0, none⟩)), (16, .func (.func 37) #[] [.pointer (some ⟨sd, 0, none⟩), .pointer (some ⟨sf, 0, none⟩), .pointer (some ⟨sb, 0, none⟩), .pointer (some ⟨st, 0, none⟩)].toArray), (60, .slice (some ⟨b1, o1, none⟩) cs.length c1), (61, vI cs.length), (62, vI i)] := hF.sub ⟨rfl, rfl, rfl, rfl, rfl, rfl, rfl, rfl, rfl, rfl, rfl, rfl, rfl, trivial⟩
      rw [show Value.int .i64 (max 0 (min ct 64)) = vI (fuelF D cn ct).torn from by show _ = vI (max 0 (min ct 64)).toNat; rw [vI]; congr 1; omega] at hS
      refine run_done (by decide) ?_
      refine block_normal ?_
      refine then_normal ?_
      replace hS := hS.move (k := 8) rfl
      replace hS := hS.move (k := 8) rfl
      replace hS := hS.move (k := 8) rfl
      replace hS := hS.move (k := 8) rfl
      replace hS := hS.move (k := 8) rfl
      replace hS := hS.move (k := 6) rfl
      replace hS := hS.move (k := 6) rfl
      replace hS := hS.move (k := 8) rfl
      simp only [List.eraseIdx_cons_succ, List.eraseIdx_cons_zero] at hS
      exact ⟨V, fuelF D cn ct, v, d, p, c, pad, hc1, hc2, fuel_okk hK (by omega), hk, hF.sub ⟨rfl, rfl, rfl, rfl, rfl, rfl, rfl, rfl, rfl, rfl, rfl, rfl, rfl, trivial⟩, stTake hS 8 (nw_cons rfl nw_nil)⟩
     ·
      refine wp_seq_k fun Kq49 hKq49 => ?_
      refine wp_region_lit ?_
      refine wpList_stp (stp_gv hF (wanted_none rfl) rfl rfl (gv_eql rfl (hF.t rfl) (ev_const _ _)) fun a hF => ?_)
      refine wpList_stp (stp_gv hF (wanted_none rfl) rfl rfl (gv_assign rfl (hF.t rfl)) fun a hF => ?_)
      refine wpList_nil ?_
      refine then_normal (hKq49 _ _ ?_)
      refine cond_dec (hF.t rfl) (fun h179 => ?_) (fun h179 => ?_)
      ·
       refine wp_seq_k fun Kq50 hKq50 => ?_
       refine wp_region_lit ?_
       refine wpList_stp (stp_gv hF (wanted_none rfl) rfl rfl (gv_move rfl (hF.t rfl)) fun a hF => ?_)
       refine wpList_stp (stp_call hF (wanted_none rfl) rfl rfl Tryd.ok40 rfl (Evs.cons (hF.t rfl) Evs.nil) (again_call (dskW_of (k := 2) (k' := 3) hS rfl rfl) hK) fun e w h => ?_)
       obtain ⟨d2, p2, c2, pad2, rfl, hc1, hc2, hN⟩ := h
       refine ⟨_, rfl, fun a hF => ?_⟩
       replace hS := hS.join hN (nw_cons rfl (nw_cons rfl nw_nil))
       simp only [List.cons_append, List.nil_append] at hS
       clear hN
       refine wpList_stp (stp_gv hF (wanted_none rfl) rfl rfl (gv_assign rfl (hF.t rfl)) fun a hF => ?_)
       refine wpList_nil ?_
       refine then_normal (hKq50 _ _ ?_)
       refine wp_seq_k fun Kq51 hKq51 => ?_
       refine wp_region_lit ?_
       refine wpList_stp (stp_storeAt (0) hF (wanted_none rfl) rfl rfl Tryd.sz3 (hF.t rfl) (by omega) (ev_const _ _) rfl hS (k := 7) rfl (by simp) fun w hS => ?_)
       refine wpList_stp (stp_storeAt (0) hF (wanted_none rfl) rfl rfl Tryd.sz3 (hF.t rfl) (by omega) (ev_const _ _) rfl hS (k := 9) rfl (by simp) fun w hS => ?_)
       refine wpList_stp (stp_storeAt (0) hF (wanted_none rfl) rfl rfl Tryd.sz4 (hF.t rfl) (by omega) (ev_const _ _) rfl hS (k := 6) rfl (by simp) fun w hS => ?_)
       refine wpList_nil ?_
       refine then_normal (hKq51 _ _ ?_)
       refine wp_seq_k fun Kq52 hKq52 => ?_
       obtain ⟨OF, hOF⟩ : ∃ OF, OF = openF D.l n := ⟨_, rfl⟩
       refine wp_region_lit ?_
       refine wpList_stp (stp_gv hF (wanted_none rfl) rfl rfl (gv_move rfl (hF.t rfl)) fun a hF => ?_)
       refine wpList_stp (stp_call hF (wanted_none rfl) rfl rfl Tryd.ok29 rfl (Evs.cons (hF.t rfl) Evs.nil) (open_ok (hG.ext (hS.toExt (nw_cons rfl (nw_cons rfl (nw_cons rfl (nw_cons rfl (nw_cons rfl (nw_cons rfl (nw_cons rfl (nw_cons rfl (nw_cons rfl (nw_cons rfl (nw_cons rfl nw_nil))))))))))))) (dskW_of (k := 0) (k' := 1) hS rfl rfl) (again_ok hK)) fun e w h => ?_)
       obtain ⟨v2, rfl, hN⟩ := h
       refine ⟨_, rfl, fun a hF => ?_⟩
       rw [show openF (againF D).l n = OF from hOF.symm] at hF hN
       replace hS := hS.join hN (nw_cons rfl nw_nil)
       simp only [List.cons_append, List.nil_append] at hS
       clear hN
       refine wpList_stp (stp_gv hF (wanted_none rfl) rfl rfl (gv_move rfl (hF.t rfl)) fun a hF => ?_)
       refine wpList_stp (stp_gv hF (wanted_none rfl) rfl rfl (gv_extract rfl (hF.t rfl) rfl) fun a hF => ?_)
       refine wpList_stp (stp_gv hF (wanted_none rfl) rfl rfl (gv_extract rfl (hF.t rfl) rfl) fun a hF => ?_)
       refine wpList_stp (stp_gv hF (wanted_none rfl) rfl rfl (gv_extract rfl (hF.t rfl) rfl) fun a hF => ?_)
       refine wpList_stp (stp_alloc hF (wanted_none rfl) rfl rfl rfl Tryd.zv63 rfl hS fun r26 a w hF hS => ?_)
       refine wpList_stp (stp_gv hF (wanted_none rfl) rfl rfl (gv_assign rfl (hF.t rfl)) fun a hF => ?_)
       refine wpList_stp (stp_storeAll hF (wanted_none rfl) rfl rfl (Tryd.sz63.trans (congrArg some (rfl))) (hF.t rfl) (hF.t rfl) ((by intro u hu; simp at hu; rcases hu with rfl | rfl | rfl <;> rfl)) hS (k := 0) rfl (rfl) fun w hS => ?_)
       refine wpList_stp (stp_gv hF (wanted_none rfl) rfl rfl (gv_assign rfl (hF.t rfl)) fun a hF => ?_)
       refine wpList_nil ?_
       refine then_normal (hKq52 _ _ ?_)
       refine wp_seq_k fun Kq53 hKq53 => ?_
       refine wp_region_lit ?_
       refine wpList_stp (stp_gv hF (wanted_none rfl) rfl rfl (gv_move rfl (hF.t rfl)) fun a hF => ?_)
       refine wpList_stp (stp_gv hF (wanted_none rfl) rfl rfl (gv_assign rfl (hF.t rfl)) fun a hF => ?_)
       refine wpList_nil ?_
       refine then_normal (hKq53 _ _ ?_)
       obtain ⟨og, ok, ⟨ga, gc, gp⟩, of⟩ := OF
       have hok : ok ≤ 1 := by have := openN_at D.l n 2 (Nat.le_refl 2); rw [show openN D.l n 2 = openF D.l n from rfl, ← hOF] at this; exact this
       cases of
       ·
        replace hS : St w0 w (⟨true, some r26, recO [] [] false⟩ :: _) := hS
        have hz := hOF.trans (openF_f (by rw [← hOF]))
        injection hz with e1 e2 e3 _
        subst e1
        subst e2
        refine wp_seq_k fun Kq54 hKq54 => ?_
        refine wp_region_lit ?_
        refine wpList_stp (stp_gv hF (wanted_none rfl) rfl rfl (gv_load rfl Tryd.underlying22 rfl (hF.t rfl) (cell_ix (j := 0) (hS.cell (k := 10) rfl (rfl)) (by omega))) fun a hF => ?_)
        refine wpList_stp (stp_call hF (wanted_none rfl) rfl rfl Tryd.ok33 rfl (Evs.cons (hF.t rfl) Evs.nil) (rnewest_ok (bl := D.l) (show Rd w (.slice (some ⟨bb, 0, none⟩) (64 * n) (64 * n)) (D.l.map vB) from (own_rd (w0 := w0) (T := _) (ob := some bb) (l := D.l) (pad := []) (List.mem_of_getElem? (i := 12) rfl) (fun h => by cases h) hK.len (by show 64 * n + 0 ≤ _; omega)) w _ hS (nw_cons rfl (nw_cons rfl (nw_cons rfl (nw_cons rfl (nw_cons rfl (nw_cons rfl (nw_cons rfl (nw_cons rfl (nw_cons rfl (nw_cons rfl (nw_cons rfl (nw_cons rfl (nw_cons rfl nw_nil))))))))))))) (fun e he => he)) (by rw [hK.len]; omega) (by rw [hK.len]; omega)) fun e w h => ?_)
        obtain ⟨rfl, hx⟩ := h
        refine ⟨_, rfl, fun a hF => ?_⟩
        replace hS := hS.ext hx
        clear hx
        rw [show newR D.l = ((-1 : Int), rc0, (0 : UInt64)) from by rw [new_same hK.len hK.n4, ← hOF]; rfl] at hF
        refine wpList_stp (stp_gv hF (wanted_none rfl) rfl rfl (gv_move rfl (hF.t rfl)) fun a hF => ?_)
        refine wpList_stp (stp_gv hF (wanted_none rfl) rfl rfl (gv_extract rfl (hF.t rfl) rfl) fun a hF => ?_)
        refine wpList_stp (stp_gv hF (wanted_none rfl) rfl rfl (gv_extract rfl (hF.t rfl) rfl) fun a hF => ?_)
        refine wpList_stp (stp_gv hF (wanted_none rfl) rfl rfl (gv_extract rfl (hF.t rfl) rfl) fun a hF => ?_)
        refine wpList_stp (stp_alloc hF (wanted_none rfl) rfl rfl rfl Tryd.zv75 rfl hS fun q29 a w hF hS => ?_)
        refine wpList_stp (stp_gv hF (wanted_none rfl) rfl rfl (gv_assign rfl (hF.t rfl)) fun a hF => ?_)
        refine wpList_stp (stp_storeAll hF (wanted_none rfl) rfl rfl (Tryd.sz75.trans (congrArg some (rfl))) (hF.t rfl) (hF.t rfl) ((by intro u hu; simp at hu; rcases hu with rfl | rfl | rfl <;> rfl)) hS (k := 0) rfl (rfl) fun w hS => ?_)
        refine wpList_stp (stp_gv hF (wanted_none rfl) rfl rfl (gv_assign rfl (hF.t rfl)) fun a hF => ?_)
        refine wpList_nil ?_
        refine then_normal (hKq54 _ _ ?_)
        refine wp_seq_k fun Kq55 hKq55 => ?_
        refine wp_region_lit ?_
        refine wpList_stp (stp_gv hF (wanted_none rfl) rfl rfl (gv_move rfl (hF.t rfl)) fun a hF => ?_)
        refine wpList_stp (stp_gv hF (wanted_none rfl) rfl rfl (gv_lssT rfl (hF.t rfl) (ev_const _ _) (by show ((-1 : Int) < 0); decide)) fun a hF => ?_)
        refine wpList_nil ?_
        refine then_normal (hKq55 _ _ ?_)
        refine wp_cond_true (hF.t rfl) ?_
        refine wp_seq_k fun Kq56 hKq56 => ?_
        refine wp_seq_k fun Kq57 hKq57 => ?_
        refine wp_region_lit ?_
        refine wpList_stp (stp_gv hF (wanted_none rfl) rfl rfl (gv_move rfl (hF.t rfl)) fun a hF => ?_)
        refine wpList_stp (stp_gv hF (wanted_none rfl) rfl rfl (gv_neqF rfl (hF.t rfl) (ev_const _ _) (fun h => h rfl)) fun a hF => ?_)
        refine wpList_stp (stp_gv hF (wanted_none rfl) rfl rfl (gv_move rfl (hF.t rfl)) fun a hF => ?_)
        refine wpList_stp (stp_gv hF (wanted_of hF rfl rfl (rfl)) rfl rfl (gv_loadAll rfl Tryd.underlying63 rfl (Tryd.sz63.trans (congrArg some (rfl))) (hF.t rfl) hS (k := 1) rfl) fun a hF => ?_)
        refine wpList_stp (stp_gv hF (wanted_of hF rfl rfl (rfl)) rfl rfl (gv_build rfl (EvP.map EvP.nil) (build_rec0 _)) fun a hF => ?_)
        refine wpList_stp (stp_gv hF (wanted_of hF rfl rfl (rfl)) rfl rfl (gv_recNeq rec3 rfl (hF.t rfl) (hF.t rfl)) fun a hF => ?_)
        rw [decide_eq_false (show ¬ ¬ (([] : List UInt8) = [] ∧ ([] : List UInt8) = [] ∧ false = false) from fun h => h ⟨rfl, rfl, rfl⟩)] at hF
        refine wpList_stp (stp_gv hF (wanted_none rfl) rfl rfl (gv_pickF rfl (hF.t rfl) (hF.t rfl)) fun a hF => ?_)
        refine wpList_nil ?_
        refine then_normal (hKq57 _ _ ?_)
        refine wp_cond_false (hF.t rfl) ?_
        refine wp_skip ?_
        refine then_normal (hKq56 _ _ ?_)
        refine wp_region_lit ?_
        refine wpList_stp (stp_gv hF (wanted_none rfl) rfl rfl (gv_assign rfl (ev_const _ _)) fun a hF => ?_)
        refine wpList_stp (stp_gv hF (wanted_none rfl) rfl rfl (gv_assign rfl (ev_const _ _)) fun a hF => ?_)
        refine wpList_nil ?_
        refine block_normal ?_
        refine then_normal ?_
        replace hS := hS.move (k := 13) rfl
        replace hS := hS.move (k := 13) rfl
        replace hS := hS.move (k := 13) rfl
        replace hS := hS.move (k := 13) rfl
        replace hS := hS.move (k := 13) rfl
        replace hS := hS.move (k := 9) rfl
        replace hS := hS.move (k := 9) rfl
        replace hS := hS.move (k := 9) rfl
        simp only [List.eraseIdx_cons_succ, List.eraseIdx_cons_zero] at hS
        exact ⟨⟨0, 1⟩, againF D, v2, d2, p2, c2, pad2, hc1, hc2, again_ok hK, (Nat.le_refl 1), hF.sub ⟨rfl, rfl, rfl, rfl, rfl, rfl, rfl, rfl, rfl, rfl, rfl, rfl, rfl, trivial⟩, stTake hS 8 (nw_cons rfl (nw_cons rfl (nw_cons rfl (nw_cons rfl (nw_cons rfl (nw_cons rfl nw_nil))))))⟩
       ·
        replace hS : St w0 w (⟨true, some r26, recO ga gc gp⟩ :: _) := hS
        refine wp_seq_k fun Kq58 hKq58 => ?_
        refine wp_region_lit ?_
        refine wpList_stp (stp_gv hF (wanted_none rfl) rfl rfl (gv_load rfl Tryd.underlying22 rfl (hF.t rfl) (cell_ix (j := 0) (hS.cell (k := 10) rfl (rfl)) (by omega))) fun a hF => ?_)
        refine wpList_stp (stp_call hF (wanted_none rfl) rfl rfl Tryd.ok33 rfl (Evs.cons (hF.t rfl) Evs.nil) (rnewest_ok (bl := D.l) (show Rd w (.slice (some ⟨bb, 0, none⟩) (64 * n) (64 * n)) (D.l.map vB) from (own_rd (w0 := w0) (T := _) (ob := some bb) (l := D.l) (pad := []) (List.mem_of_getElem? (i := 12) rfl) (fun h => by cases h) hK.len (by show 64 * n + 0 ≤ _; omega)) w _ hS (nw_cons rfl (nw_cons rfl (nw_cons rfl (nw_cons rfl (nw_cons rfl (nw_cons rfl (nw_cons rfl (nw_cons rfl (nw_cons rfl (nw_cons rfl (nw_cons rfl (nw_cons rfl (nw_cons rfl nw_nil))))))))))))) (fun e he => he)) (by rw [hK.len]; omega) (by rw [hK.len]; omega)) fun e w h => ?_)
        obtain ⟨rfl, hx⟩ := h
        refine ⟨_, rfl, fun a hF => ?_⟩
        replace hS := hS.ext hx
        clear hx
        rw [show newR D.l = ((ok : Int), (⟨ga, gc, gp⟩ : Rc), og) from by rw [new_same hK.len hK.n4, ← hOF]; rfl] at hF
        refine wpList_stp (stp_gv hF (wanted_none rfl) rfl rfl (gv_move rfl (hF.t rfl)) fun a hF => ?_)
        refine wpList_stp (stp_gv hF (wanted_none rfl) rfl rfl (gv_extract rfl (hF.t rfl) rfl) fun a hF => ?_)
        refine wpList_stp (stp_gv hF (wanted_none rfl) rfl rfl (gv_extract rfl (hF.t rfl) rfl) fun a hF => ?_)
        refine wpList_stp (stp_gv hF (wanted_none rfl) rfl rfl (gv_extract rfl (hF.t rfl) rfl) fun a hF => ?_)
        refine wpList_stp (stp_alloc hF (wanted_none rfl) rfl rfl rfl Tryd.zv75 rfl hS fun q29 a w hF hS => ?_)
        refine wpList_stp (stp_gv hF (wanted_none rfl) rfl rfl (gv_assign rfl (hF.t rfl)) fun a hF => ?_)
        refine wpList_stp (stp_storeAll hF (wanted_none rfl) rfl rfl (Tryd.sz75.trans (congrArg some (rfl))) (hF.t rfl) (hF.t rfl) ((by intro u hu; simp at hu; rcases hu with rfl | rfl | rfl <;> rfl)) hS (k := 0) rfl (rfl) fun w hS => ?_)
        refine wpList_stp (stp_gv hF (wanted_none rfl) rfl rfl (gv_assign rfl (hF.t rfl)) fun a hF => ?_)
        refine wpList_nil ?_
        refine then_normal (hKq58 _ _ ?_)
        refine wp_seq_k fun Kq59 hKq59 => ?_
        refine wp_region_lit ?_
        refine wpList_stp (stp_gv hF (wanted_none rfl) rfl rfl (gv_move rfl (hF.t rfl)) fun a hF => ?_)
        refine wpList_stp (stp_gv hF (wanted_none rfl) rfl rfl (gv_lssF rfl (hF.t rfl) (ev_const _ _) (by show ¬ ((ok : Int) < 0); omega)) fun a hF => ?_)
        refine wpList_nil ?_
        refine then_normal (hKq59 _ _ ?_)
        refine wp_cond_false (hF.t rfl) ?_
        refine wp_seq_k fun Kq60 hKq60 => ?_
        refine wp_seq_k fun Kq61 hKq61 => ?_
        refine Fw.wp_region_draw (by kernel_rfl) fun w hx => ?_
        replace hS := hS.ext hx
        clear hx
        refine run_swalk _ 0 8 [4] [] _ (by kernel_rfl) (by kernel_rfl) rfl hF.size ?_
        have hO := hS
        clear hS
        have hS := St.refl w
        refine sw_gv hF rfl (wanted_none rfl) rfl rfl (fun w hx => gv_move rfl (hF.t rfl)) fun a hF => ?_
        refine sw_gv hF rfl (wanted_none rfl) rfl rfl (fun w hx => gv_neqF rfl (hF.t rfl) (ev_const _ _) (fun h => h rfl)) fun a hF => ?_
        refine sw_gv hF rfl (wanted_none rfl) rfl rfl (fun w hx => gv_move rfl (hF.t rfl)) fun a hF => ?_
        refine sw_gv hF rfl (wanted_of hF rfl rfl (rfl)) rfl rfl (fun w hx => gv_loadAll rfl Tryd.underlying63 rfl (Tryd.sz63.trans (congrArg some (rfl))) (hF.t rfl) (hO.ext hx) (k := 1) rfl) fun a hF => ?_
        refine sw_eff rfl (stp_call hF (wanted_of hF rfl rfl (rfl)) rfl rfl Tryd.ok35 rfl (Evs.cons (hF.t rfl) Evs.nil) (of_ok) fun e w h => ?_)
        obtain ⟨rfl, hx⟩ := h
        refine ⟨_, rfl, fun a hF => ?_⟩
        replace hS := hS.ext hx
        clear hx
        refine ⟨hS.toExt nw_nil, ?_⟩
        refine sw_gv hF rfl (wanted_of hF rfl rfl (rfl)) rfl rfl (fun w hx => gv_loadAll rfl Tryd.underlying75 rfl (Tryd.sz75.trans (congrArg some (rfl))) (hF.t rfl) (hO.ext hx) (k := 0) rfl) fun a hF => ?_
        refine sw_gv hF rfl (wanted_of hF rfl rfl (rfl)) rfl rfl (fun w hx => gv_recNeq rec3r rfl (hF.t rfl) (hF.t rfl)) fun a hF => ?_
        rw [decide_eq_false (show ¬ ¬ (ga = ga ∧ gc = gc ∧ gp = gp) from fun h => h ⟨rfl, rfl, rfl⟩)] at hF
        refine sw_gv hF rfl (wanted_none rfl) rfl rfl (fun w hx => gv_pickF rfl (hF.t rfl) (hF.t rfl)) fun a hF => ?_
        refine sw_nil ?_
        replace hS := hO.join hS nw_nil
        simp only [List.cons_append, List.nil_append] at hS
        clear hO
        refine run_done (by decide) ?_
        refine then_normal (hKq61 _ _ ?_)
        refine wp_cond_false (hF.t rfl) ?_
        refine wp_skip ?_
        refine then_normal (hKq60 _ _ ?_)
        refine wp_region_lit ?_
        refine wpList_stp (stp_gv hF (wanted_none rfl) rfl rfl (gv_move rfl (hF.t rfl)) fun a hF => ?_)
        refine wpList_stp (stp_gv hF (wanted_none rfl) rfl rfl (gv_move rfl (hF.t rfl)) fun a hF => ?_)
        refine wpList_stp (stp_gv hF (wanted_none rfl) rfl rfl (gv_assign rfl (hF.t rfl)) fun a hF => ?_)
        refine wpList_stp (stp_gv hF (wanted_none rfl) rfl rfl (gv_assign rfl (hF.t rfl)) fun a hF => ?_)
        refine wpList_nil ?_
        refine block_normal ?_
        refine then_normal ?_
        replace hS := hS.move (k := 13) rfl
        replace hS := hS.move (k := 13) rfl
        replace hS := hS.move (k := 13) rfl
        replace hS := hS.move (k := 13) rfl
        replace hS := hS.move (k := 13) rfl
        replace hS := hS.move (k := 9) rfl
        replace hS := hS.move (k := 9) rfl
        replace hS := hS.move (k := 9) rfl
        simp only [List.eraseIdx_cons_succ, List.eraseIdx_cons_zero] at hS
        exact ⟨⟨og, ok⟩, againF D, v2, d2, p2, c2, pad2, hc1, hc2, again_ok hK, hok, hF.sub ⟨rfl, rfl, rfl, rfl, rfl, rfl, rfl, rfl, rfl, rfl, rfl, rfl, rfl, trivial⟩, stTake hS 8 (nw_cons rfl (nw_cons rfl (nw_cons rfl (nw_cons rfl (nw_cons rfl (nw_cons rfl nw_nil))))))⟩
      ·
       refine wp_seq_k fun Kq62 hKq62 => ?_
       refine wp_region_lit ?_
       refine wpList_stp (stp_gv hF (wanted_none rfl) rfl rfl (gv_eql rfl (hF.t rfl) (ev_const _ _)) fun a hF => ?_)
       refine wpList_stp (stp_gv hF (wanted_none rfl) rfl rfl (gv_assign rfl (hF.t rfl)) fun a hF => ?_)
       refine wpList_nil ?_
       refine then_normal (hKq62 _ _ ?_)
       refine cond_dec (hF.t rfl) (fun h215 => ?_) (fun h215 => ?_)
       ·
        obtain ⟨X, hX0, hXe, hX1, hX2⟩ := md cn (n : Int) (by omega)
        refine wp_seq_k fun Kq63 hKq63 => ?_
        refine wp_region_lit ?_
        refine wpList_stp (stp_gv hF (wanted_none rfl) rfl rfl (gv_field (r := 4) rfl Tryd.underlying87 rfl rfl Tryd.sz3 (by decide) (hF.t rfl)) fun a hF => ?_)
        refine wpList_stp (stp_gv hF (wanted_none rfl) rfl rfl (gv_load rfl Tryd.underlying3 rfl (hF.t rfl) (cell_ix (j := 4) (hS.cell (k := 0) rfl (rfl)) (by omega))) fun a hF => ?_)
        refine wpList_stp (stp_gv hF (wanted_none rfl) rfl rfl (gv_move rfl (hF.t rfl)) fun a hF => ?_)
        refine wpList_stp (stp_gv hF (wanted_none rfl) rfl rfl (gv_rem rfl (hF.t rfl) (hF.t rfl) (by omega)) fun a hF => ?_)
        refine wpList_stp (stp_gv hF (wanted_none rfl) rfl rfl (gv_move rfl (hF.t rfl)) fun a hF => ?_)
        refine wpList_stp (stp_gv hF (wanted_none rfl) rfl rfl (gv_add rfl (hF.t rfl) (hF.t rfl) (by omega) (by omega)) fun a hF => ?_)
        refine wpList_stp (stp_gv hF (wanted_none rfl) rfl rfl (gv_move rfl (hF.t rfl)) fun a hF => ?_)
        refine wpList_stp (stp_gv hF (wanted_none rfl) rfl rfl (gv_rem rfl (hF.t rfl) (hF.t rfl) (by omega)) fun a hF => ?_)
        rw [hXe] at hF
        refine wpList_stp (stp_gv hF (wanted_none rfl) rfl rfl (gv_assign rfl (hF.t rfl)) fun a hF => ?_)
        refine wpList_nil ?_
        refine then_normal (hKq63 _ _ ?_)
        refine wp_seq_k fun Kq64 hKq64 => ?_
        refine wp_region_lit ?_
        refine wpList_stp (stp_alloc hF (wanted_none rfl) rfl rfl rfl Tryd.zv72 rfl hS fun xx a w hF hS => ?_)
        refine wpList_nil ?_
        refine then_normal (hKq64 _ _ ?_)
        refine wp_seq_k fun Kq65 hKq65 => ?_
        refine wp_seq_k fun Kq66 hKq66 => ?_
        refine wp_region_lit ?_
        refine wpList_stp (stp_gv hF (wanted_none rfl) rfl rfl (gv_move rfl (ev_const _ _)) fun a hF => ?_)
        refine wpList_nil ?_
        refine then_normal (hKq66 _ _ ?_)
        refine wp_block ?_
        replace hS : St w0 w (⟨true, some xx, blkB 72 (xF ct 0)⟩ :: ⟨true, some cx, blk 87 [.int .i64 kd, sV ca, sV cc, .bool cp, .int .i64 cn, .int .i64 ct]⟩ :: ⟨true, some v, vltO d V.g V.k⟩ :: ⟨true, some d, dskO p n c D⟩ :: ⟨true, some p, datO D pad⟩ :: ⟨true, some sd, blk 4 [.bool (D).dead]⟩ :: ⟨true, some sf, blk 3 [.int .i64 (D).fuel]⟩ :: ⟨true, some sb, blk 22 [.slice (some ⟨bb, 0, none⟩) (64 * n) (64 * n)]⟩ :: ⟨true, some st, blk 3 [vI (D).torn]⟩ :: ⟨true, some bb, blk 5 ((D).l.map vB ++ [])⟩ :: []) := hS
        refine wp_loop_n (fun mq a w => ∃ k, k ≤ 64 ∧ mq = 64 - k ∧ Fr 258 a [(0, vI n), (5, .pointer (some ⟨d, 0, none⟩)), (7, .pointer (some ⟨v, 0, none⟩)), (10, .pointer (some ⟨sb, 0, none⟩)), (11, vD V.g), (12, vI V.k), (13, .pointer (some ⟨sf, 0, none⟩)), (14, .pointer (some ⟨st, 0, none⟩)), (15, .pointer (some ⟨sd, 0, none⟩)), (16, .func (.func 37) #[] [.pointer (some ⟨sd, 0, none⟩), .pointer (some ⟨sf, 0, none⟩), .pointer (some ⟨sb, 0, none⟩), .pointer (some ⟨st, 0, none⟩)].toArray), (60, .slice (some ⟨b1, o1, none⟩) cs.length c1), (61, vI cs.length), (62, vI i), (18, .pointer (some ⟨cx, 0, none⟩)), (31, vI X), (32, .pointer (some ⟨xx, 0, none⟩)), (225, vI k)] ∧ St w0 w (⟨true, some xx, blkB 72 (xF ct k)⟩ :: ⟨true, some cx, blk 87 [.int .i64 kd, sV ca, sV cc, .bool cp, .int .i64 cn, .int .i64 ct]⟩ :: ⟨true, some v, vltO d V.g V.k⟩ :: ⟨true, some d, dskO p n c D⟩ :: ⟨true, some p, datO D pad⟩ :: ⟨true, some sd, blk 4 [.bool (D).dead]⟩ :: ⟨true, some sf, blk 3 [.int .i64 (D).fuel]⟩ :: ⟨true, some sb, blk 22 [.slice (some ⟨bb, 0, none⟩) (64 * n) (64 * n)]⟩ :: ⟨true, some st, blk 3 [vI (D).torn]⟩ :: ⟨true, some bb, blk 5 ((D).l.map vB ++ [])⟩ :: [])) 64 ⟨0, by omega, by omega, hF.sub ⟨rfl, rfl, rfl, rfl, rfl, rfl, rfl, rfl, rfl, rfl, rfl, rfl, rfl, rfl, rfl, rfl, rfl, trivial⟩, hS⟩ ?_
        rintro mq a w ⟨k, hk64, hmq, hF, hS⟩
        refine wp_seq_k fun Kq67 hKq67 => ?_
        refine wp_region_lit ?_
        refine wpList_stp (stp_gv hF (wanted_none rfl) rfl rfl (gv_lss rfl (hF.t rfl) (ev_const _ _)) fun a hF => ?_)
        refine wpList_nil ?_
        refine then_normal (hKq67 _ _ ?_)
        refine wp_seq_k fun Kq68 hKq68 => ?_
        refine cond_dec (hF.t rfl) (fun h226 => ?_) (fun h226 => ?_)
        ·
         refine wp_skip ?_
         refine then_normal (hKq68 _ _ ?_)
         refine wp_seq_k fun Kq69 hKq69 => ?_
         refine wp_block ?_
         refine wp_seq_k fun Kq70 hKq70 => ?_
         refine wp_region_lit ?_
         refine wpList_stp (stp_gv hF (wanted_none rfl) rfl rfl (gv_move rfl (hF.t rfl)) fun a hF => ?_)
         refine wpList_stp (stp_gv hF (wanted_none rfl) rfl rfl (gv_assign rfl (hF.t rfl)) fun a hF => ?_)
         refine wpList_nil ?_
         refine then_normal (hKq70 _ _ ?_)
         refine wp_region_lit ?_
         refine wpList_stp (stp_gv hF (wanted_none rfl) rfl rfl (gv_move rfl (hF.t rfl)) fun a hF => ?_)
         refine wpList_stp (stp_gv hF (wanted_none rfl) rfl rfl (gv_field (r := 5) rfl Tryd.underlying87 rfl rfl Tryd.sz3 (by decide) (hF.t rfl)) fun a hF => ?_)
         refine wpList_stp (stp_gv hF (wanted_none rfl) rfl rfl (gv_load rfl Tryd.underlying3 rfl (hF.t rfl) (cell_ix (j := 5) (hS.cell (k := 1) rfl (rfl)) (by omega))) fun a hF => ?_)
         refine wpList_stp (stp_gv hF (wanted_none rfl) rfl rfl (gv_byI rfl Tryd.underlying3 Tryd.underlying5 (hF.t rfl)) fun a hF => ?_)
         refine wpList_stp (stp_gv hF (wanted_none rfl) rfl rfl (gv_indexArr rfl Tryd.underlying72 Tryd.sz5 (hF.t rfl) (hF.t rfl) (by omega)) fun a hF => ?_)
         refine wpList_stp (stp_storeB (k) hF (wanted_none rfl) rfl rfl Tryd.sz5 (hF.t rfl) (by omega) (hF.t rfl) hS (k := 0) rfl (by rw [xF_len (by omega)]; omega) fun w hS => ?_)
         rw [xF_set (by omega)] at hS
         refine wpList_nil ?_
         refine block_normal ?_
         refine then_normal (hKq69 _ _ ?_)
         refine wp_region_lit ?_
         refine wpList_stp (stp_gv hF (wanted_none rfl) rfl rfl (gv_nadd (n := 1) rfl (hF.t rfl) rfl (by omega)) fun a hF => ?_)
         refine wpList_stp (stp_gv hF (wanted_none rfl) rfl rfl (gv_move rfl (hF.t rfl)) fun a hF => ?_)
         refine wpList_nil ?_
         refine then_normal ?_
         exact ⟨mq - 1, by omega, k + 1, by omega, by omega, hF.sub ⟨rfl, rfl, rfl, rfl, rfl, rfl, rfl, rfl, rfl, rfl, rfl, rfl, rfl, rfl, rfl, rfl, rfl, trivial⟩, hS⟩
        ·
         refine wp_exit ?_
         refine then_exit ?_
         refine then_exit ?_
         refine block_exit ?_
         refine then_normal (hKq65 _ _ ?_)
         refine wp_seq_k fun Kq71 hKq71 => ?_
         obtain rfl : k = 64 := by omega
         refine wp_region_lit ?_
         refine wpList_stp (stp_gv hF (wanted_none rfl) rfl rfl (gv_move rfl (hF.t rfl)) fun a hF => ?_)
         refine wpList_stp (stp_gv hF (wanted_none rfl) rfl rfl (gv_move rfl (hF.t rfl)) fun a hF => ?_)
         refine wpList_stp (stp_gv hF (wanted_none rfl) rfl rfl (gv_sliceArr rfl Tryd.underlying72 Tryd.sz5 (hF.t rfl)) fun a hF => ?_)
         replace hS := hS.move (k := 9) rfl
         replace hS := hS.move (k := 9) rfl
         replace hS := hS.move (k := 9) rfl
         replace hS := hS.move (k := 9) rfl
         replace hS := hS.move (k := 9) rfl
         simp only [List.eraseIdx_cons_succ, List.eraseIdx_cons_zero] at hS
         refine wpList_stp (stp_callV (f := 37) (caps := [.pointer (some ⟨sd, 0, none⟩), .pointer (some ⟨sf, 0, none⟩), .pointer (some ⟨sb, 0, none⟩), .pointer (some ⟨st, 0, none⟩)]) hF (wanted_none rfl) rfl rfl Tryd.ok37 rfl (hF.t rfl) (Evs.cons (hF.t rfl) (Evs.cons (hF.t rfl) Evs.nil)) (shw_ok (i := X) (D := D) (x := xF ct 64) (nw_cons rfl (nw_cons rfl (nw_cons rfl (nw_cons rfl (nw_cons rfl nw_nil))))) hS hK (by omega) (SRd.arr List.mem_cons_self (xF_len (Nat.le_refl 64)) (by omega)) (xF_len (Nat.le_refl 64))) fun e w h => ?_)
         obtain ⟨rfl, hS⟩ := h
         refine ⟨_, rfl, fun a hF => ?_⟩
         refine wpList_stp (stp_gv hF (wanted_none rfl) rfl rfl (gv_assign rfl (hF.t rfl)) fun a hF => ?_)
         refine wpList_nil ?_
         refine then_normal (hKq71 _ _ ?_)
         refine wp_seq_k fun Kq72 hKq72 => ?_
         refine wp_region_lit ?_
         refine wpList_stp (stp_gv hF (wanted_none rfl) rfl rfl (gv_move rfl (hF.t rfl)) fun a hF => ?_)
         refine wpList_stp (stp_gv hF (wanted_none rfl) rfl rfl (gv_move rfl (hF.t rfl)) fun a hF => ?_)
         refine wpList_stp (stp_gv hF (wanted_none rfl) rfl rfl (gv_move rfl (hF.t rfl)) fun a hF => ?_)
         refine wpList_stp (stp_gv hF (wanted_none rfl) rfl rfl (gv_loadAll rfl Tryd.underlying72 rfl (Tryd.sz72.trans (congrArg some (by rw [List.length_map, xF_len (Nat.le_refl 64)]))) (hF.t rfl) hS (k := 5) rfl) fun a hF => ?_)
         replace hS := hS.move (k := 9) rfl
         replace hS := hS.move (k := 9) rfl
         simp only [List.eraseIdx_cons_succ, List.eraseIdx_cons_zero] at hS
         refine wpList_stp (stp_call hF (wanted_none rfl) rfl rfl Tryd.ok32 rfl (Evs.cons (hF.t rfl) (Evs.cons (hF.t rfl) (Evs.cons (hF.t rfl) Evs.nil))) (dwrite_ok (i := ((X : Nat) : Int)) (D := D) (xl := xF ct 64) (nw_cons rfl (nw_cons rfl (nw_cons rfl (nw_cons rfl (nw_cons rfl (nw_cons rfl (nw_cons rfl (nw_cons rfl nw_nil)))))))) hS hK (xF_len (Nat.le_refl 64))) fun e w h => ?_)
         obtain ⟨rfl, hS⟩ := h
         refine ⟨_, rfl, fun a hF => ?_⟩
         refine wpList_stp (stp_gv hF (wanted_none rfl) rfl rfl (gv_eql rfl (hF.t rfl) (ev_const _ _)) fun a hF => ?_)
         refine wpList_stp (stp_gv hF (wanted_none rfl) rfl rfl (gv_boolNeq rfl Tryd.underlying4 (hF.t rfl) (hF.t rfl)) fun a hF => ?_)
         rw [dec_cast] at hF
         refine wpList_nil ?_
         refine then_normal (hKq72 _ _ ?_)
         refine wp_cond_false (hF.t rfl) ?_
         refine wp_skip ?_
         refine block_normal ?_
         refine then_normal ?_
         replace hS := hS.move (k := 6) rfl
         replace hS := hS.move (k := 6) rfl
         replace hS := hS.move (k := 6) rfl
         replace hS := hS.move (k := 6) rfl
         replace hS := hS.move (k := 6) rfl
         replace hS := hS.move (k := 6) rfl
         replace hS := hS.move (k := 6) rfl
         replace hS := hS.move (k := 9) rfl
         simp only [List.eraseIdx_cons_succ, List.eraseIdx_cons_zero] at hS
         exact ⟨V, _, v, d, p, c, pad, hc1, hc2, wrF_ok hK (xF_len (Nat.le_refl 64)), hk, hF.sub ⟨rfl, rfl, rfl, rfl, rfl, rfl, rfl, rfl, rfl, rfl, rfl, rfl, rfl, trivial⟩, stTake hS 8 (nw_cons rfl (nw_cons rfl nw_nil))⟩
       ·
        refine wp_skip ?_
        refine block_normal ?_
        refine then_normal ?_
        replace hS := hS.move (k := 8) rfl
        replace hS := hS.move (k := 8) rfl
        replace hS := hS.move (k := 8) rfl
        replace hS := hS.move (k := 8) rfl
        replace hS := hS.move (k := 8) rfl
        replace hS := hS.move (k := 8) rfl
        replace hS := hS.move (k := 8) rfl
        replace hS := hS.move (k := 8) rfl
        simp only [List.eraseIdx_cons_succ, List.eraseIdx_cons_zero] at hS
        exact ⟨V, D, v, d, p, c, pad, hc1, hc2, hK, hk, hF.sub ⟨rfl, rfl, rfl, rfl, rfl, rfl, rfl, rfl, rfl, rfl, rfl, rfl, rfl, trivial⟩, stTake hS 8 (nw_cons rfl nw_nil)⟩
   ·
    rintro a w ⟨V, D, v, d, p, c, pad, hc1, hc2, hK, hk, hF, hS⟩
    refine wp_seq_k fun Kq73 hKq73 => ?_
    refine Fw.wp_region_draw (by kernel_rfl) fun w hx => ?_
    replace hS := hS.ext hx
    clear hx
    refine run_swalk _ 0 12 [1, 2, 8] [[1], [6, 5, 2]] _ (by kernel_rfl) (by kernel_rfl) rfl hF.size ?_
    have hO := hS
    clear hS
    have hS := St.refl w
    refine sw_gv hF rfl (wanted_none rfl) rfl rfl (fun w hx => gv_move rfl (hF.t rfl)) fun a hF => ?_
    refine sw_eff rfl (stp_call hF (wanted_none rfl) rfl rfl Tryd.ok34 rfl (Evs.cons (hF.t rfl) Evs.nil) (image_ok (dskW_of (k := 1) (k' := 2) (hO.ext (hS.toExt nw_nil)) rfl rfl) hK.len (by omega)) fun e w h => ?_)
    obtain ⟨o, op, rfl, oo, oc, hN⟩ := h
    refine ⟨_, rfl, fun a hF => ?_⟩
    replace hS := hS.join hN (nw_cons rfl nw_nil)
    simp only [List.cons_append, List.nil_append] at hS
    clear hN
    refine ⟨hS.toExt (nw_cons rfl nw_nil), ?_⟩
    refine sw_eff rfl (stp_gv hF (wanted_none rfl) rfl rfl (gv_convStr rfl Tryd.underlying22 Tryd.underlying5 Tryd.underlying9 (hF.t rfl) ((own_rd (ob := o) (l := D.l) List.mem_cons_self oo rfl oc) w _ hS (nw_cons rfl nw_nil) (fun e he => he))) fun a hF => ?_)
    refine ⟨hS.toExt (nw_cons rfl nw_nil), ?_⟩
    refine sw_gv hF rfl (wanted_none rfl) rfl rfl (fun w hx => gv_load rfl Tryd.underlying22 rfl (hF.t rfl) (cell_ix (j := 0) ((hO.ext hx).cell (k := 5) rfl (rfl)) (by omega))) fun a hF => ?_
    refine sw_gv hF rfl (wanted_none rfl) rfl rfl (fun w hx => gv_convStr rfl Tryd.underlying22 Tryd.underlying5 Tryd.underlying9 (hF.t rfl) (show Rd w (.slice (some ⟨bb, 0, none⟩) (64 * n) (64 * n)) (D.l.map vB) from (own_rd (w0 := w0) (T := _) (ob := some bb) (l := D.l) (pad := []) (List.mem_of_getElem? (i := 7) rfl) (fun h => by cases h) hK.len (by show 64 * n + 0 ≤ _; omega)) w _ (hO.ext hx) (nw_cons rfl (nw_cons rfl (nw_cons rfl (nw_cons rfl (nw_cons rfl (nw_cons rfl (nw_cons rfl (nw_cons rfl nw_nil)))))))) (fun e he => he))) fun a hF => ?_
    refine sw_gv hF rfl (wanted_none rfl) rfl rfl (fun w hx => gv_strNeq rfl (hF.t rfl) (hF.t rfl)) fun a hF => ?_
    rw [decide_eq_false (fun h => h rfl)] at hF
    refine sw_gv hF rfl (wanted_none rfl) rfl rfl (fun w hx => gv_move rfl (hF.t rfl)) fun a hF => ?_
    refine sw_gv hF rfl (wanted_of hF rfl rfl (rfl)) rfl rfl (fun w hx => gv_move rfl (hF.t rfl)) fun a hF => ?_
    refine sw_eff rfl (stp_call hF (wanted_of hF rfl rfl (rfl)) rfl rfl Tryd.ok41 rfl (Evs.cons (hF.t rfl) Evs.nil) (dead_ok ((hO.ext (hS.toExt (nw_cons rfl nw_nil))).cell (k := 1) (i := 3) rfl rfl)) fun e w h => ?_)
    obtain ⟨rfl, hx⟩ := h
    refine ⟨_, rfl, fun a hF => ?_⟩
    replace hS := hS.ext hx
    clear hx
    refine ⟨hS.toExt (nw_cons rfl nw_nil), ?_⟩
    refine sw_gv hF rfl (wanted_of hF rfl rfl (rfl)) rfl rfl (fun w hx => gv_load rfl Tryd.underlying4 rfl (hF.t rfl) (cell_ix (j := 0) ((hO.ext hx).cell (k := 3) rfl (rfl)) (by omega))) fun a hF => ?_
    refine sw_gv hF rfl (wanted_of hF rfl rfl (rfl)) rfl rfl (fun w hx => gv_boolNeq rfl Tryd.underlying4 (hF.t rfl) (hF.t rfl)) fun a hF => ?_
    rw [decide_eq_false (fun h => h rfl)] at hF
    refine sw_gv hF rfl (wanted_none rfl) rfl rfl (fun w hx => gv_pickF rfl (hF.t rfl) (hF.t rfl)) fun a hF => ?_
    refine sw_nil ?_
    replace hS := hO.join hS (nw_cons rfl nw_nil)
    simp only [List.cons_append, List.nil_append] at hS
    clear hO
    refine run_done (by decide) ?_
    refine then_normal (hKq73 _ _ ?_)
    refine wp_cond_false (hF.t rfl) ?_
    refine wp_skip ?_
    refine block_normal ?_
    refine then_normal (hKq17 _ _ ?_)
    refine wp_region_lit ?_
    refine wpList_stp (stp_gv hF (wanted_none rfl) rfl rfl (gv_nadd (n := 1) rfl (hF.t rfl) rfl (by omega)) fun a hF => ?_)
    refine wpList_stp (stp_gv hF (wanted_none rfl) rfl rfl (gv_move rfl (hF.t rfl)) fun a hF => ?_)
    refine wpList_nil ?_
    refine then_normal ?_
    replace hS := hS.move (k := 8) rfl
    replace hS := hS.move (k := 8) rfl
    replace hS := hS.move (k := 8) rfl
    replace hS := hS.move (k := 8) rfl
    replace hS := hS.move (k := 8) rfl
    replace hS := hS.move (k := 8) rfl
    replace hS := hS.move (k := 8) rfl
    replace hS := hS.move (k := 8) rfl
    simp only [List.eraseIdx_cons_succ, List.eraseIdx_cons_zero] at hS
    exact ⟨nn - 1, by omega, i + 1, V, D, v, d, p, c, pad, by omega, by omega, hc1, hc2, hK, hk, hF.sub ⟨rfl, rfl, rfl, rfl, rfl, rfl, rfl, rfl, rfl, rfl, rfl, rfl, rfl, trivial⟩, stTake hS 8 (nw_cons rfl nw_nil)⟩
  ·
   refine wp_exit ?_
   refine then_exit ?_
   refine then_exit ?_
   refine block_exit ?_
   refine then_normal (hKq13 _ _ ?_)
   refine wp_seq_k fun Kq74 hKq74 => ?_
   refine wp_region_lit ?_
   refine wpList_stp (stp_gv hF (wanted_none rfl) rfl rfl (gv_assign rfl (ev_const _ _)) fun a hF => ?_)
   refine wpList_nil ?_
   refine then_normal (hKq74 _ _ ?_)
   refine wp_ret ?_
   refine ret1 (fn := Tryd.f11) (t := 4) hF rfl rfl ?_
   exact ⟨rfl, hS.toExt (nw_cons rfl (nw_cons rfl (nw_cons rfl (nw_cons rfl (nw_cons rfl (nw_cons rfl (nw_cons rfl (nw_cons rfl nw_nil))))))))⟩


end Go.Proofs.YtfhalnobaeogkaaDoor

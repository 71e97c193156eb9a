/- What is proved: VaultCrashes returns true. -/
import Derived.Test.YtfhalnobaeogkaaDoorProg
import Derived.Test.YtfhalnobaeogkaaDoorFwSep
import Derived.KernelRfl
import Derived.Test.YtfhalnobaeogkaaDoorFwSto
import Derived.Test.YtfhalnobaeogkaaDoorFwVlt
import Derived.Test.YtfhalnobaeogkaaDoorFwApp
import Derived.Test.YtfhalnobaeogkaaDoorFwWord
import Derived.Test.YtfhalnobaeogkaaDoorFwPkt
import Derived.Test.YtfhalnobaeogkaaDoorFwTok
import Derived.Test.YtfhalnobaeogkaaDoorDig
import Derived.Test.YtfhalnobaeogkaaDoorSum
import Derived.Test.YtfhalnobaeogkaaDoorWire
import Derived.Test.YtfhalnobaeogkaaDoorPktW
import Derived.Test.YtfhalnobaeogkaaDoorPktR
import Derived.Test.YtfhalnobaeogkaaDoorWireA
import Derived.Test.YtfhalnobaeogkaaDoorDisk
import Derived.Test.YtfhalnobaeogkaaDoorHead
import Derived.Test.YtfhalnobaeogkaaDoorHalf
import Derived.Test.YtfhalnobaeogkaaDoorOpen
import Derived.Test.YtfhalnobaeogkaaDoorSave
import Derived.Test.YtfhalnobaeogkaaDoorVPure
import Derived.Test.YtfhalnobaeogkaaDoorLawVN
import Derived.Test.YtfhalnobaeogkaaDoorLawVF
import Derived.Test.YtfhalnobaeogkaaDoorVCrash
import Derived.Test.YtfhalnobaeogkaaDoorVCall
set_option linter.unusedVariables false
set_option linter.unusedSimpArgs false
namespace Go.Proofs.YtfhalnobaeogkaaDoor
open Go Go.RowKit Go.Fw

theorem Tryd.ok36 : CallOk Tryd.prog 36 := ⟨_, Tryd.func36, by kernel_rfl, by kernel_rfl⟩


theorem fuel_okk {D : Dk} {n : Nat} {i j : Int} (h : DkOk n D) (hi : i ≤ 9223372036854775807) : DkOk n (fuelF D i j) := by
  obtain ⟨h1, h2, h3, h4, h5, h6⟩ := h
  exact ⟨h1, h2, h3, by show -1 ≤ max i (-1); omega, by show max i (-1) ≤ _; omega, by show (max 0 (min j 64)).toNat ≤ 64; omega⟩


set_option maxHeartbeats 2000000 in
theorem vcrash_true {v0 : Value} {cs : List CallV} {fi ft : Int} {w0 : World} (hG : Glob w0) (hv : CVd w0 v0 cs) (hfi : -9223372036854775808 ≤ fi ∧ fi ≤ 9223372036854775807) (hft : -9223372036854775808 ≤ ft ∧ ft ≤ 9223372036854775807) :
    Calls Tryd.prog 12 #[v0, .int .i64 fi, .int .i64 ft] w0 fun e w' => e = .returned (.bool true) ∧ Ext w0 w' := by
  obtain ⟨A1, c1, hv1, _⟩ := hv.is
  subst hv1
  have hlen := hv.len
  obtain ⟨F0, hF0, hFe, hF1, hF2⟩ := md fi 200 (by decide)
  refine calls_start 146 Tryd.func12 rfl Tryd.ntmps12 rfl fun a hF => ?_
  have hS := St.refl w0
  refine wp_seq_k fun Kq1 hKq1 => ?_
  -- region 0 (law.go:144)
  refine wp_region_lit ?_
  refine wpList_stp (stp_gv hF (wanted_none rfl) rfl rfl (gv_assign rfl (ev_const _ _)) fun a hF => ?_)
  refine wpList_nil ?_
  refine then_normal (hKq1 _ _ ?_)
  refine wp_seq_k fun Kq2 hKq2 => ?_
  refine wp_seq_k fun Kq3 hKq3 => ?_
  -- region 1 (law.go:145)
  refine wp_region_lit ?_
  refine wpList_stp (stp_call hF (wanted_none rfl) rfl rfl Tryd.ok27 rfl Evs.nil (fit18_ok hG) fun e w h => ?_)
  obtain ⟨rfl, hx⟩ := h
  refine ⟨_, rfl, fun a hF => ?_⟩
  replace hS := hS.ext hx
  clear hx
  refine wpList_stp (stp_gv hF (wanted_none rfl) rfl rfl (gv_not rfl (hF.t rfl)) fun a hF => ?_)
  refine wpList_nil ?_
  refine then_normal (hKq3 _ _ ?_)
  refine wp_cond_false (hF.t rfl) ?_
  refine wp_skip ?_
  refine then_normal (hKq2 _ _ ?_)
  refine wp_seq_k fun Kq4 hKq4 => ?_
  refine wp_seq_k fun Kq5 hKq5 => ?_
  -- region 3 (law.go:148)
  refine wp_region_lit ?_
  refine wpList_stp (stp_gv hF (wanted_none rfl) rfl rfl (gv_move rfl (hF.t rfl)) fun a hF => ?_)
  refine wpList_stp (stp_call hF (wanted_none rfl) rfl rfl Tryd.ok36 rfl (Evs.cons (hF.t rfl) Evs.nil) (lightV_ok (hv.ext (hS.toExt nw_nil))) fun e w h => ?_)
  obtain ⟨rfl, hx⟩ := h
  refine ⟨_, rfl, fun a hF => ?_⟩
  replace hS := hS.ext hx
  clear hx
  refine wpList_stp (stp_gv hF (wanted_none rfl) rfl rfl (gv_not rfl (hF.t rfl)) fun a hF => ?_)
  rw [← decide_not] at hF
  refine wpList_nil ?_
  refine then_normal (hKq5 _ _ ?_)
  refine cond_dec (hF.t rfl) (fun h29 => ?_) (fun h29 => ?_)
  ·
    refine wp_seq_k fun Kq6 hKq6 => ?_
    -- region 4 (law.go:149)
    refine wp_region_lit ?_
    refine wpList_stp (stp_gv hF (wanted_none rfl) rfl rfl (gv_assign rfl (ev_const _ _)) fun a hF => ?_)
    refine wpList_nil ?_
    refine then_normal (hKq6 _ _ ?_)
    refine wp_ret ?_
    refine then_ret ?_
    refine ret1 (fn := Tryd.f12) (t := 6) hF rfl rfl ?_
    exact ⟨rfl, hS.toExt nw_nil⟩
  ·
    have hli := Decidable.not_not.1 h29
    have hn150 := Nat.le_trans (lightV_len cs cs.length (Nat.le_refl _)) hli
    refine wp_skip ?_
    refine then_normal (hKq4 _ _ ?_)
    refine wp_seq_k fun Kq7 hKq7 => ?_
    -- region 5 (law.go:151)
    refine wp_region_lit ?_
    refine wpList_stp (stp_call hF (wanted_none rfl) rfl rfl Tryd.ok28 rfl (Evs.cons rfl Evs.nil) (new_call (n := 64) (by omega) (by omega)) fun e w h => ?_)
    obtain ⟨d, p, rfl, hN⟩ := h
    refine ⟨_, rfl, fun a hF => ?_⟩
    replace hS := hS.join hN (nw_cons rfl (nw_cons rfl nw_nil))
    simp only [List.cons_append, List.nil_append] at hS
    clear hN
    refine wpList_stp (stp_gv hF (wanted_none rfl) rfl rfl (gv_move rfl (hF.t rfl)) fun a hF => ?_)
    refine wpList_stp (stp_gv hF (wanted_none rfl) rfl rfl (gv_extract rfl (hF.t rfl) rfl) fun a hF => ?_)
    refine wpList_stp (stp_gv hF (wanted_none rfl) rfl rfl (gv_extract rfl (hF.t rfl) rfl) fun a hF => ?_)
    refine wpList_stp (stp_gv hF (wanted_none rfl) rfl rfl (gv_assign rfl (hF.t rfl)) fun a hF => ?_)
    refine wpList_stp (stp_gv hF (wanted_none rfl) rfl rfl (gv_assign rfl (hF.t rfl)) fun a hF => ?_)
    refine wpList_nil ?_
    refine then_normal (hKq7 _ _ ?_)
    refine wp_seq_k fun Kq8 hKq8 => ?_
    -- region 6 (law.go:152)
    refine wp_region_lit ?_
    refine wpList_stp (stp_gv hF (wanted_none rfl) rfl rfl (gv_move rfl (hF.t rfl)) fun a hF => ?_)
    refine wpList_stp (stp_call hF (wanted_none rfl) rfl rfl Tryd.ok29 rfl (Evs.cons (hF.t rfl) Evs.nil) (open_ok (hG.ext (hS.toExt (nw_cons rfl (nw_cons rfl nw_nil)))) (dskW_of (k := 0) (k' := 1) hS rfl rfl) (new_ok (by decide) (by decide))) fun e w h => ?_)
    obtain ⟨v, rfl, hN⟩ := h
    refine ⟨_, rfl, fun a hF => ?_⟩
    rw [new_open (by decide)] at hF hN
    replace hS := hS.join hN (nw_cons rfl nw_nil)
    simp only [List.cons_append, List.nil_append] at hS
    clear hN
    refine wpList_stp (stp_gv hF (wanted_none rfl) rfl rfl (gv_move rfl (hF.t rfl)) fun a hF => ?_)
    refine wpList_stp (stp_gv hF (wanted_none rfl) rfl rfl (gv_extract rfl (hF.t rfl) rfl) fun a hF => ?_)
    refine wpList_stp (stp_gv hF (wanted_none rfl) rfl rfl (gv_extract rfl (hF.t rfl) rfl) fun a hF => ?_)
    refine wpList_stp (stp_gv hF (wanted_none rfl) rfl rfl (gv_extract rfl (hF.t rfl) rfl) fun a hF => ?_)
    refine wpList_stp (stp_alloc hF (wanted_none rfl) rfl rfl rfl Tryd.zv63 rfl hS fun r10 a w hF hS => ?_)
    refine wpList_stp (stp_gv hF (wanted_none rfl) rfl rfl (gv_assign rfl (hF.t rfl)) fun a hF => ?_)
    refine wpList_stp (stp_storeAll hF (wanted_none rfl) rfl rfl (Tryd.sz63.trans (congrArg some (rfl))) (hF.t rfl) (hF.t rfl) ((by intro u hu; simp at hu; rcases hu with rfl | rfl | rfl <;> rfl)) hS (k := 0) rfl (rfl) fun w hS => ?_)
    refine wpList_stp (stp_gv hF (wanted_none rfl) rfl rfl (gv_assign rfl (hF.t rfl)) fun a hF => ?_)
    refine wpList_nil ?_
    refine then_normal (hKq8 _ _ ?_)
    refine wp_seq_k fun Kq9 hKq9 => ?_
    -- region 7 (law.go:153)
    refine wp_region_lit ?_
    refine wpList_stp (stp_alloc hF (wanted_none rfl) rfl rfl rfl Tryd.zv63 rfl hS fun la a w hF hS => ?_)
    refine wpList_stp (stp_alloc hF (wanted_none rfl) rfl rfl rfl Tryd.zv63 rfl hS fun tr a w hF hS => ?_)
    refine wpList_nil ?_
    refine then_normal (hKq9 _ _ ?_)
    refine wp_seq_k fun Kq10 hKq10 => ?_
    -- region 8 (law.go:154)
    refine wp_region_lit ?_
    refine wpList_stp (stp_gv hF (wanted_none rfl) rfl rfl (gv_assign rfl (ev_const _ _)) fun a hF => ?_)
    refine wpList_nil ?_
    refine then_normal (hKq10 _ _ ?_)
    refine wp_seq_k fun Kq11 hKq11 => ?_
    -- region 9 (law.go:155)
    refine wp_region_lit ?_
    refine wpList_stp (stp_gv hF (wanted_none rfl) rfl rfl (gv_move rfl (hF.t rfl)) fun a hF => ?_)
    refine wpList_stp (stp_gv hF (wanted_none rfl) rfl rfl (gv_rem rfl (hF.t rfl) (ev_const _ _) (by decide)) fun a hF => ?_)
    refine wpList_stp (stp_gv hF (wanted_none rfl) rfl rfl (gv_add rfl (hF.t rfl) (ev_const _ _) (by omega) (by omega)) fun a hF => ?_)
    refine wpList_stp (stp_gv hF (wanted_none rfl) rfl rfl (gv_rem rfl (hF.t rfl) (ev_const _ _) (by decide)) fun a hF => ?_)
    rw [hFe] at hF
    refine wpList_stp (stp_gv hF (wanted_none rfl) rfl rfl (gv_assign rfl (hF.t rfl)) fun a hF => ?_)
    refine wpList_nil ?_
    refine then_normal (hKq11 _ _ ?_)
    refine wp_seq_k fun Kq12 hKq12 => ?_
    refine wp_seq_k fun Kq13 hKq13 => ?_
    -- region 10 (law.go:156)
    refine wp_region_lit ?_
    refine wpList_stp (stp_gv hF (wanted_none rfl) rfl rfl (gv_move rfl (hF.t rfl)) fun a hF => ?_)
    refine wpList_stp (stp_gv hF (wanted_none rfl) rfl rfl (gv_len rfl Tryd.underlying83 (hF.t rfl)) fun a hF => ?_)
    refine wpList_stp (stp_gv hF (wanted_none rfl) rfl rfl (gv_move rfl (ev_const _ _)) fun a hF => ?_)
    refine wpList_nil ?_
    refine then_normal (hKq13 _ _ ?_)
    refine wp_block ?_
    replace hS := ((hS.move (k := 5) rfl).move (k := 5) rfl).move (k := 5) rfl
    simp only [List.eraseIdx_cons_succ, List.eraseIdx_cons_zero] at hS
    refine wp_loop_n (fun nn a w => ∃ (i : Nat) (V : Vt) (D : Dk) (lo : Option Rc), i ≤ cs.length ∧ nn = cs.length - i ∧ V.g.toNat ≤ i ∧ VInv V D 64 lo ∧ D.dead = false ∧ Fr 146 a [(0, .slice A1 cs.length c1), (1, vI F0), (2, .int .i64 ft), (7, .pointer (some ⟨d, 0, none⟩)), (9, .pointer (some ⟨v, 0, none⟩)), (12, .pointer (some ⟨la, 0, none⟩)), (13, .pointer (some ⟨tr, 0, none⟩)), (14, .bool (decide (lo.isSome = true))), (44, .slice A1 cs.length c1), (45, vI cs.length), (46, vI i)] ∧ St w0 w (⟨true, some v, vltO d V.g V.k⟩ :: ⟨true, some d, dskO p 64 64 D⟩ :: ⟨true, some p, datO D []⟩ :: ⟨true, some tr, recO (lo.getD rc0).a (lo.getD rc0).c (lo.getD rc0).p⟩ :: ⟨true, some la, recO (lo.getD rc0).a (lo.getD rc0).c (lo.getD rc0).p⟩ :: [⟨true, some r10, recO [] [] false⟩])) cs.length ⟨0, ⟨0, 1⟩, newF 64, none, by omega, by omega, Nat.zero_le _, vinv_new (by decide) (by decide), rfl, hF.sub ⟨rfl, rfl, rfl, rfl, rfl, rfl, rfl, rfl, rfl, rfl, rfl, trivial⟩, hS⟩ ?_
    rintro nn a w ⟨i, V, D, lo, hi, hnn, hgi, hI, hdd, hF, hS⟩
    refine wp_seq_k fun Kq14 hKq14 => ?_
    -- region 11 (law.go:156)
    refine wp_region_lit ?_
    refine wpList_stp (stp_gv hF (wanted_none rfl) rfl rfl (gv_lss rfl (hF.t rfl) (hF.t rfl)) fun a hF => ?_)
    refine wpList_nil ?_
    refine then_normal (hKq14 _ _ ?_)
    refine wp_seq_k fun Kq15 hKq15 => ?_
    refine cond_dec (hF.t rfl) (fun h47 => ?_) (fun h47 => ?_)
    ·
      obtain ⟨b1, o1, ⟨kd, ca, cc, cp, cn, ct⟩, hA1, hx1, hcell, hca, hcc, hcn, hct⟩ := hv.at (i := i) (by omega)
      simp only at hca hcc hcn hct
      subst hA1
      have hsm := lightV_small hli hx1
      simp only at hsm
      refine wp_skip ?_
      refine then_normal (hKq15 _ _ ?_)
      refine wp_seq_k fun Kq16 hKq16 => ?_
      refine wp_block ?_
      refine wp_seq_k fun Kq17 hKq17 => ?_
      -- region 12 (law.go:156)
      refine wp_region_lit ?_
      refine wpList_stp (stp_gv hF (wanted_none rfl) rfl rfl (gv_move rfl (hF.t rfl)) fun a hF => ?_)
      refine wpList_stp (stp_gv hF (wanted_none rfl) rfl rfl (gv_indexSl rfl Tryd.underlying83 Tryd.sz87 (hF.t rfl) (hF.t rfl) (by omega)) fun a hF => ?_)
      refine wpList_stp (stp_gv hF (wanted_none rfl) rfl rfl (gv_loadAgg (vs := [.int .i64 kd, sV ca, sV cc, .bool cp, .int .i64 cn, .int .i64 ct]) rfl Tryd.underlying87 rfl (Tryd.sz87.trans (congrArg some (by rfl))) (hF.t rfl) (fun j u hu => ext_cell (hS.toExt (nw_cons rfl (nw_cons rfl (nw_cons rfl (nw_cons rfl (nw_cons rfl (nw_cons rfl nw_nil))))))) (hcell j u hu))) fun a hF => ?_)
      refine wpList_stp (stp_alloc hF (wanted_none rfl) rfl rfl rfl Tryd.zv87 rfl hS fun cx a w hF hS => ?_)
      refine wpList_stp (stp_gv hF (wanted_none rfl) rfl rfl (gv_assign rfl (hF.t rfl)) fun a hF => ?_)
      refine wpList_stp (stp_storeAll hF (wanted_none rfl) rfl rfl (Tryd.sz87.trans (congrArg some (by rfl))) (hF.t rfl) (hF.t rfl) (cellsV_one ⟨kd, ca, cc, cp, cn, ct⟩) hS (k := 0) rfl (by rfl) fun w hS => ?_)
      refine wpList_nil ?_
      refine then_normal (hKq17 _ _ ?_)
      refine wp_seq_k fun Kq18 hKq18 => ?_
      refine wp_seq_k fun Kq19 hKq19 => ?_
      -- region 13 (law.go:157)
      refine wp_region_lit ?_
      refine wpList_stp (stp_gv hF (wanted_none rfl) rfl rfl (gv_field (r := 0) rfl Tryd.underlying87 rfl rfl Tryd.sz3 (by decide) (hF.t rfl)) fun a hF => ?_)
      refine wpList_stp (stp_gv hF (wanted_none rfl) rfl rfl (gv_load rfl Tryd.underlying3 rfl (hF.t rfl) (cell_ix (j := 0) (hS.cell (k := 0) rfl (rfl)) (by omega))) fun a hF => ?_)
      refine wpList_stp (stp_gv hF (wanted_none rfl) rfl rfl (gv_neq rfl (hF.t rfl) (ev_const _ _)) fun a hF => ?_)
      refine wpList_nil ?_
      refine then_normal (hKq19 _ _ ?_)
      refine cond_dec (hF.t rfl) (fun h53 => ?_) (fun h53 => ?_)
      ·
        refine wp_exit ?_
        refine then_exit ?_
        refine block_exit ?_
        refine then_normal (hKq16 _ _ ?_)
        -- region 30 (law.go:156)
        refine wp_region_lit ?_
        refine wpList_stp (stp_gv hF (wanted_none rfl) rfl rfl (gv_nadd (n := 1) rfl (hF.t rfl) rfl (by omega)) fun a hF => ?_)
        refine wpList_stp (stp_gv hF (wanted_none rfl) rfl rfl (gv_move rfl (hF.t rfl)) fun a hF => ?_)
        refine wpList_nil ?_
        refine then_normal ?_
        exact ⟨nn - 1, by omega, i + 1, V, D, lo, by omega, by omega, by omega, hI, hdd, hF.sub ⟨rfl, rfl, rfl, rfl, rfl, rfl, rfl, rfl, rfl, rfl, rfl, trivial⟩, hS.drop rfl⟩
      ·
        refine wp_skip ?_
        refine then_normal (hKq18 _ _ ?_)
        refine wp_cut (fun a w => ∃ D : Dk, VInv V D 64 lo ∧ D.dead = false ∧ Fr 146 a [(0, .slice (some ⟨b1, o1, none⟩) cs.length c1), (1, vI F0), (2, .int .i64 ft), (7, .pointer (some ⟨d, 0, none⟩)), (9, .pointer (some ⟨v, 0, none⟩)), (12, .pointer (some ⟨la, 0, none⟩)), (13, .pointer (some ⟨tr, 0, none⟩)), (14, .bool (decide (lo.isSome = true))), (44, .slice (some ⟨b1, o1, none⟩) cs.length c1), (45, vI cs.length), (46, vI i), (16, .pointer (some ⟨cx, 0, none⟩))] ∧ St w0 w (⟨true, some cx, blk 87 [.int .i64 kd, sV ca, sV cc, .bool cp, .int .i64 cn, .int .i64 ct]⟩ :: ⟨true, some v, vltO d V.g V.k⟩ :: ⟨true, some d, dskO p 64 64 D⟩ :: ⟨true, some p, datO D []⟩ :: ⟨true, some tr, recO (lo.getD rc0).a (lo.getD rc0).c (lo.getD rc0).p⟩ :: ⟨true, some la, recO (lo.getD rc0).a (lo.getD rc0).c (lo.getD rc0).p⟩ :: [⟨true, some r10, recO [] [] false⟩])) ?_ ?_
        ·
          refine wp_seq_k fun Kq20 hKq20 => ?_
          -- region 14 (law.go:160)
          refine wp_region_lit ?_
          refine wpList_stp (stp_gv hF (wanted_none rfl) rfl rfl (gv_move rfl (hF.t rfl)) fun a hF => ?_)
          refine wpList_stp (stp_gv hF (wanted_none rfl) rfl rfl (gv_move rfl (hF.t rfl)) fun a hF => ?_)
          refine wpList_stp (stp_gv hF (wanted_none rfl) rfl rfl (gv_len rfl Tryd.underlying83 (hF.t rfl)) fun a hF => ?_)
          refine wpList_stp (stp_gv hF (wanted_none rfl) rfl rfl (gv_nquo (n := 2) rfl (hF.t rfl) rfl (by omega) (by omega)) fun a hF => ?_)
          refine wpList_stp (stp_gv hF (wanted_none rfl) rfl rfl (gv_eql rfl (hF.t rfl) (hF.t rfl)) fun a hF => ?_)
          refine wpList_nil ?_
          refine then_normal (hKq20 _ _ ?_)
          refine cond_dec (hF.t rfl) (fun h58 => ?_) (fun h58 => ?_)
          ·
            -- region 15 (law.go:161)
            refine wp_region_lit ?_
            refine wpList_stp (stp_gv hF (wanted_none rfl) rfl rfl (gv_move rfl (hF.t rfl)) fun a hF => ?_)
            refine wpList_stp (stp_gv hF (wanted_none rfl) rfl rfl (gv_move rfl (hF.t rfl)) fun a hF => ?_)
            refine wpList_stp (stp_gv hF (wanted_none rfl) rfl rfl (gv_move rfl (hF.t rfl)) fun a hF => ?_)
            replace hS := (hS.move (k := 3) rfl).move (k := 3) rfl
            simp only [List.eraseIdx_cons_succ, List.eraseIdx_cons_zero] at hS
            refine wpList_stp (stp_call hF (wanted_none rfl) rfl rfl Tryd.ok39 rfl (Evs.cons (hF.t rfl) (Evs.cons (hF.t rfl) (Evs.cons (hF.t rfl) Evs.nil))) (fuel_ok (i := (F0 : Int)) (j := ft) hS) fun e w h => ?_)
            obtain ⟨rfl, hS⟩ := h
            refine ⟨_, rfl, fun a hF => ?_⟩
            replace hS := (hS.move (k := 3) rfl).move (k := 3) rfl
            simp only [List.eraseIdx_cons_succ, List.eraseIdx_cons_zero] at hS
            refine wpList_nil ?_
            refine then_normal ?_
            exact ⟨fuelF D (F0 : Int) ft, vinv_dk hI rfl (fuel_okk hI.ok (by omega)), hdd, hF.sub ⟨rfl, rfl, rfl, rfl, rfl, rfl, rfl, rfl, rfl, rfl, rfl, rfl, trivial⟩, hS⟩
          ·
            refine wp_skip ?_
            refine then_normal ?_
            exact ⟨D, hI, hdd, hF.sub ⟨rfl, rfl, rfl, rfl, rfl, rfl, rfl, rfl, rfl, rfl, rfl, rfl, trivial⟩, hS⟩
        · rintro a w ⟨D, hI, hdd, hF, hS⟩
          refine wp_seq_k fun Kq21 hKq21 => ?_
          -- region 16 (law.go:163)
          refine wp_region_lit ?_
          refine wpList_stp (stp_gv hF (wanted_none rfl) rfl rfl (gv_field (r := 1) rfl Tryd.underlying87 rfl rfl Tryd.sz9 (by decide) (hF.t rfl)) fun a hF => ?_)
          refine wpList_stp (stp_gv hF (wanted_none rfl) rfl rfl (gv_load rfl Tryd.underlying9 rfl (hF.t rfl) (cell_ix (j := 1) (hS.cell (k := 0) rfl (rfl)) (by omega))) fun a hF => ?_)
          refine wpList_stp (stp_gv hF (wanted_none rfl) rfl rfl (gv_field (r := 2) rfl Tryd.underlying87 rfl rfl Tryd.sz9 (by decide) (hF.t rfl)) fun a hF => ?_)
          refine wpList_stp (stp_gv hF (wanted_none rfl) rfl rfl (gv_load rfl Tryd.underlying9 rfl (hF.t rfl) (cell_ix (j := 2) (hS.cell (k := 0) rfl (rfl)) (by omega))) fun a hF => ?_)
          refine wpList_stp (stp_gv hF (wanted_none rfl) rfl rfl (gv_field (r := 3) rfl Tryd.underlying87 rfl rfl Tryd.sz4 (by decide) (hF.t rfl)) fun a hF => ?_)
          refine wpList_stp (stp_gv hF (wanted_none rfl) rfl rfl (gv_load rfl Tryd.underlying4 rfl (hF.t rfl) (cell_ix (j := 3) (hS.cell (k := 0) rfl (rfl)) (by omega))) fun a hF => ?_)
          refine wpList_stp (stp_gv hF (wanted_none rfl) rfl rfl (gv_build rfl (EvP.map (EvP.cons (hF.t rfl) (EvP.cons (hF.t rfl) (EvP.cons (hF.t rfl) EvP.nil)))) (build_rec _ _ _ _)) fun a hF => ?_)
          refine wpList_stp (stp_alloc hF (wanted_none rfl) rfl rfl rfl Tryd.zv63 rfl hS fun rr a w hF hS => ?_)
          refine wpList_stp (stp_storeAll hF (wanted_none rfl) rfl rfl (Tryd.sz63.trans (congrArg some (rfl))) (hF.t rfl) (hF.t rfl) ((by intro u hu; simp at hu; rcases hu with rfl | rfl | rfl <;> rfl)) hS (k := 0) rfl (rfl) fun w hS => ?_)
          refine wpList_nil ?_
          refine then_normal (hKq21 _ _ ?_)
          refine wp_seq_k fun Kq22 hKq22 => ?_
          -- region 17 (law.go:164)
          refine wp_region_lit ?_
          refine wpList_stp (stp_gv hF (wanted_none rfl) rfl rfl (gv_move rfl (hF.t rfl)) fun a hF => ?_)
          refine wpList_stp (stp_gv hF (wanted_none rfl) rfl rfl (gv_loadAll rfl Tryd.underlying63 rfl (Tryd.sz63.trans (congrArg some (rfl))) (hF.t rfl) hS (k := 0) rfl) fun a hF => ?_)
          replace hS := ((hS.move (k := 4) rfl).move (k := 4) rfl).move (k := 4) rfl
          simp only [List.eraseIdx_cons_succ, List.eraseIdx_cons_zero] at hS
          refine wpList_stp (stp_call hF (wanted_none rfl) rfl rfl Tryd.ok30 rfl (Evs.cons (hF.t rfl) (Evs.cons (hF.t rfl) Evs.nil)) (save_ok (al := ca) (cl := cc) (pp := cp) hG (nw_cons rfl (nw_cons rfl (nw_cons rfl (nw_cons rfl (nw_cons rfl nw_nil))))) hS hI.ok hI.k (by omega) (by omega)) fun e w h => ?_)
          obtain ⟨rfl, hS⟩ := h
          refine ⟨_, rfl, fun a hF => ?_⟩
          refine wpList_stp (stp_gv hF (wanted_none rfl) rfl rfl (gv_assign rfl (hF.t rfl)) fun a hF => ?_)
          refine wpList_nil ?_
          refine then_normal (hKq22 _ _ ?_)
          rcases saveF_code (r := ⟨ca, cc, cp⟩) hI hdd with ⟨V2, D2, hs⟩ | hs | ⟨D2, hs, hK2, hd2, ho2⟩
          ·
            rw [hs] at hF hS
            simp only at hF hS
            refine wp_seq_k fun Kq23 hKq23 => ?_
            -- region 18 (law.go:164)
            refine wp_region_lit ?_
            refine wpList_stp (stp_gv hF (wanted_none rfl) rfl rfl (gv_move rfl (hF.t rfl)) fun a hF => ?_)
            refine wpList_nil ?_
            refine then_normal (hKq23 _ _ ?_)
            refine wp_block ?_
            refine wp_seq_k fun Kq24 hKq24 => ?_
            -- region 20 (law.go:165)
            refine wp_region_lit ?_
            refine wpList_stp (stp_gv hF (wanted_none rfl) rfl rfl (gv_eqlT rfl (hF.t rfl) (ev_const _ _) (rfl)) fun a hF => ?_)
            refine wpList_stp (stp_gv hF (wanted_none rfl) rfl rfl (gv_assign rfl (hF.t rfl)) fun a hF => ?_)
            refine wpList_nil ?_
            refine then_normal (hKq24 _ _ ?_)
            refine wp_cond_true (hF.t rfl) ?_
            -- region 21 (law.go:166)
            refine Fw.wp_region_draw (by kernel_rfl) fun w hx => ?_
            replace hS := hS.ext hx
            clear hx
            refine run_headU (n := 5) _ [2, 3] [2, 3] (fun s_ x => ∃ l1 l2 : List Value, l1.length = 3 ∧ l2.length = 3 ∧ (1 ≤ s_ → l1 = [sV ca, sV cc, .bool cp]) ∧ (s_ = 2 → l2 = [sV ca, sV cc, .bool cp]) ∧ St w0 x [⟨true, some v, vltO d V2.g V2.k⟩, ⟨true, some d, dskO p 64 64 D2⟩, ⟨true, some p, datO D2 []⟩, ⟨true, some rr, recO ca cc cp⟩, ⟨true, some cx, blk 87 [.int .i64 kd, sV ca, sV cc, .bool cp, .int .i64 cn, .int .i64 ct]⟩, ⟨true, some tr, blk 63 l2⟩, ⟨true, some la, blk 63 l1⟩, ⟨true, some r10, recO [] [] false⟩]) [(0, 76, FtE (.agg [sV ca, sV cc, .bool cp].toArray)), (1, 77, FtE (.agg [sV ca, sV cc, .bool cp].toArray))] hF (hS.toExt (nw_cons rfl (nw_cons rfl (nw_cons rfl (nw_cons rfl (nw_cons rfl (nw_cons rfl (nw_cons rfl (nw_cons rfl nw_nil))))))))) (⟨_, _, rfl, rfl, (fun h => absurd h (by decide)), (fun h => by cases h), hS⟩) (fun _ _ _ ⟨l1, l2, h1, h2, h3, h4, h5⟩ hx => ⟨l1, l2, h1, h2, h3, h4, h5.ext hx⟩) (by kernel_rfl) rfl (fa_cons rfl (fa_cons rfl fa_nil)) (fa_cons (FtE.lasts _) (fa_cons (FtE.lasts _) fa_nil)) (fa_cons ⟨Nat.zero_le _, Nat.le_of_ble_eq_true rfl⟩ (fa_cons ⟨Nat.zero_le _, Nat.le_of_ble_eq_true rfl⟩ fa_nil)) rfl (by kernel_rfl) (by kernel_rfl) ?_
            refine dw_fl rfl ?_
            refine dw_fl rfl ?_
            refine dw_fl rfl ?_
            refine dw_fl rfl ?_
            refine dw_gv hF rfl (wanted_none rfl) rfl rfl (fun w hx => gv_assign rfl (ev_const _ _)) fun a hF => ?_
            refine dw_nil ⟨(fa_cons ?_ (fa_cons ?_ fa_nil)), (fa_cons ?_ (fa_cons ?_ fa_nil)), fun a w hx hA hR hP => ?_⟩
            · intro s_ a w hsl hx hA hdp hP
              replace hF := hA _ hF
              obtain ⟨l1, l2, _, _, _, _, hS⟩ := hP
              exact ⟨_, rfl, .inl ⟨show (0 : Nat) ∉ [2, 3] from by decide, sx_gv (wanted_none rfl) (gv_loadAll (cs := [sV ca, sV cc, .bool cp]) rfl Tryd.underlying63 rfl Tryd.sz63 (hF.t rfl) hS (k := 3) rfl) rfl⟩⟩
            · intro s_ a w hsl hx hA hdp hP
              replace hF := hA _ hF
              obtain ⟨l1, l2, _, _, _, _, hS⟩ := hP
              exact ⟨_, rfl, .inl ⟨show (1 : Nat) ∉ [2, 3] from by decide, sx_gv (wanted_none rfl) (gv_loadAll (cs := [sV ca, sV cc, .bool cp]) rfl Tryd.underlying63 rfl Tryd.sz63 (hF.t rfl) hS (k := 3) rfl) rfl⟩⟩
            · intro s_ a w hsl hx hA hdp hP
              replace hF := hA _ hF
              refine ⟨_, 0, rfl, rfl, fun hs => ?_⟩
              subst hs
              obtain ⟨l1, l2, q1, q2, q3, q4, hS⟩ := hP
              refine ux_storeAgg (i := 0) (vs := [sV ca, sV cc, .bool cp]) (cs := l1) (wanted_none rfl) rfl Tryd.sz63 (hF.t rfl) ((hF.t rfl).trans (hdp _ (List.mem_of_getElem? (i := 0) rfl) (by kernel_rfl))) (by intro u hu; simp at hu; rcases hu with rfl | rfl | rfl <;> rfl) hS (k := 6) rfl (by rw [q1]; exact Nat.le_refl 3) fun w' hS' => ?_
              exact ⟨hS'.toExt (nw_cons rfl (nw_cons rfl (nw_cons rfl (nw_cons rfl (nw_cons rfl (nw_cons rfl (nw_cons rfl (nw_cons rfl nw_nil)))))))), ⟨_, l2, by simp [q1], q2, (fun _ => by rw [List.drop_of_length_le (by rw [q1]; exact Nat.le_refl 3)]; rfl), (fun h => by cases h), hS'⟩, (fa_cons id (fa_cons id fa_nil))⟩
            · intro s_ a w hsl hx hA hdp hP
              replace hF := hA _ hF
              refine ⟨_, 1, rfl, rfl, fun hs => ?_⟩
              subst hs
              obtain ⟨l1, l2, q1, q2, q3, q4, hS⟩ := hP
              refine ux_storeAgg (i := 0) (vs := [sV ca, sV cc, .bool cp]) (cs := l2) (wanted_none rfl) rfl Tryd.sz63 (hF.t rfl) ((hF.t rfl).trans (hdp _ (List.mem_of_getElem? (i := 1) rfl) (by kernel_rfl))) (by intro u hu; simp at hu; rcases hu with rfl | rfl | rfl <;> rfl) hS (k := 5) rfl (by rw [q2]; exact Nat.le_refl 3) fun w' hS' => ?_
              exact ⟨hS'.toExt (nw_cons rfl (nw_cons rfl (nw_cons rfl (nw_cons rfl (nw_cons rfl (nw_cons rfl (nw_cons rfl (nw_cons rfl nw_nil)))))))), ⟨l1, _, q1, by simp [q2], (fun _ => q3 (by decide)), (fun _ => by rw [List.drop_of_length_le (by rw [q2]; exact Nat.le_refl 3)]; rfl), hS'⟩, (fa_cons id (fa_cons id fa_nil))⟩
            replace hF := hA _ hF
            clear hA
            obtain ⟨l1, l2, _, _, q3, q4, hS⟩ := hP
            obtain rfl := q3 (by decide)
            obtain rfl := q4 rfl
            clear hR q3 q4
            replace hF : Fr 146 a [(0, .slice (some ⟨b1, o1, none⟩) cs.length c1), (1, vI F0), (2, .int .i64 ft), (7, .pointer (some ⟨d, 0, none⟩)), (9, .pointer (some ⟨v, 0, none⟩)), (12, .pointer (some ⟨la, 0, none⟩)), (13, .pointer (some ⟨tr, 0, none⟩)), (14, .bool (decide ((some (⟨ca, cc, cp⟩ : Rc)).isSome = true))), (44, .slice (some ⟨b1, o1, none⟩) cs.length c1), (45, vI cs.length), (46, vI i)] := hF.sub ⟨rfl, rfl, rfl, rfl, rfl, rfl, rfl, rfl, rfl, rfl, rfl, trivial⟩
            refine run_done (by decide) ?_
            refine block_normal ?_
            refine block_normal ?_
            refine then_normal (hKq16 _ _ ?_)
            -- region 30 (law.go:156)
            refine wp_region_lit ?_
            refine wpList_stp (stp_gv hF (wanted_none rfl) rfl rfl (gv_nadd (n := 1) rfl (hF.t rfl) rfl (by omega)) fun a hF => ?_)
            refine wpList_stp (stp_gv hF (wanted_none rfl) rfl rfl (gv_move rfl (hF.t rfl)) fun a hF => ?_)
            refine wpList_nil ?_
            refine then_normal ?_
            obtain ⟨hI2, hdd2, hg2⟩ := vinv_save hI (by omega) hs
            replace hS := (hS.move (k := 3) rfl).drop rfl
            replace hS := (hS.move (k := 3) rfl).drop rfl
            exact ⟨nn - 1, by omega, i + 1, V2, D2, some ⟨ca, cc, cp⟩, by omega, by omega, by omega, hI2, hdd2.trans hdd, hF.sub ⟨rfl, rfl, rfl, rfl, rfl, rfl, rfl, rfl, rfl, rfl, rfl, trivial⟩, hS⟩
          ·
            rw [hs] at hF hS
            simp only at hF hS
            refine wp_seq_k fun Kq25 hKq25 => ?_
            -- region 18 (law.go:164)
            refine wp_region_lit ?_
            refine wpList_stp (stp_gv hF (wanted_none rfl) rfl rfl (gv_move rfl (hF.t rfl)) fun a hF => ?_)
            refine wpList_nil ?_
            refine then_normal (hKq25 _ _ ?_)
            refine wp_block ?_
            refine wp_seq_k fun Kq26 hKq26 => ?_
            -- region 20 (law.go:165)
            refine wp_region_lit ?_
            refine wpList_stp (stp_gv hF (wanted_none rfl) rfl rfl (gv_eqlF rfl (hF.t rfl) (ev_const _ _) (by decide)) fun a hF => ?_)
            refine wpList_stp (stp_gv hF (wanted_none rfl) rfl rfl (gv_assign rfl (hF.t rfl)) fun a hF => ?_)
            refine wpList_nil ?_
            refine then_normal (hKq26 _ _ ?_)
            refine wp_cond_false (hF.t rfl) ?_
            refine wp_seq_k fun Kq27 hKq27 => ?_
            -- region 22 (law.go:167)
            refine wp_region_lit ?_
            refine wpList_stp (stp_gv hF (wanted_none rfl) rfl rfl (gv_eqlF rfl (hF.t rfl) (ev_const _ _) (by decide)) fun a hF => ?_)
            refine wpList_stp (stp_gv hF (wanted_none rfl) rfl rfl (gv_assign rfl (hF.t rfl)) fun a hF => ?_)
            refine wpList_nil ?_
            refine then_normal (hKq27 _ _ ?_)
            refine wp_cond_false (hF.t rfl) ?_
            refine wp_seq_k fun Kq28 hKq28 => ?_
            -- region 29 (law.go:176)
            refine wp_region_lit ?_
            refine wpList_stp (stp_gv hF (wanted_none rfl) rfl rfl (gv_eqlT rfl (hF.t rfl) (ev_const _ _) (rfl)) fun a hF => ?_)
            refine wpList_stp (stp_gv hF (wanted_none rfl) rfl rfl (gv_assign rfl (hF.t rfl)) fun a hF => ?_)
            refine wpList_nil ?_
            refine then_normal (hKq28 _ _ ?_)
            refine wp_cond_true (hF.t rfl) ?_
            refine wp_skip ?_
            refine block_normal ?_
            refine block_normal ?_
            refine then_normal (hKq16 _ _ ?_)
            -- region 30 (law.go:156)
            refine wp_region_lit ?_
            refine wpList_stp (stp_gv hF (wanted_none rfl) rfl rfl (gv_nadd (n := 1) rfl (hF.t rfl) rfl (by omega)) fun a hF => ?_)
            refine wpList_stp (stp_gv hF (wanted_none rfl) rfl rfl (gv_move rfl (hF.t rfl)) fun a hF => ?_)
            refine wpList_nil ?_
            refine then_normal ?_
            replace hS := (hS.move (k := 3) rfl).drop rfl
            replace hS := (hS.move (k := 3) rfl).drop rfl
            exact ⟨nn - 1, by omega, i + 1, V, D, lo, by omega, by omega, by omega, hI, hdd, hF.sub ⟨rfl, rfl, rfl, rfl, rfl, rfl, rfl, rfl, rfl, rfl, rfl, trivial⟩, hS⟩
          ·
            rw [hs] at hF hS
            simp only at hF hS
            refine wp_seq_k fun Kq29 hKq29 => ?_
            -- region 18 (law.go:164)
            refine wp_region_lit ?_
            refine wpList_stp (stp_gv hF (wanted_none rfl) rfl rfl (gv_move rfl (hF.t rfl)) fun a hF => ?_)
            refine wpList_nil ?_
            refine then_normal (hKq29 _ _ ?_)
            refine wp_block ?_
            refine wp_seq_k fun Kq30 hKq30 => ?_
            -- region 20 (law.go:165)
            refine wp_region_lit ?_
            refine wpList_stp (stp_gv hF (wanted_none rfl) rfl rfl (gv_eqlF rfl (hF.t rfl) (ev_const _ _) (by decide)) fun a hF => ?_)
            refine wpList_stp (stp_gv hF (wanted_none rfl) rfl rfl (gv_assign rfl (hF.t rfl)) fun a hF => ?_)
            refine wpList_nil ?_
            refine then_normal (hKq30 _ _ ?_)
            refine wp_cond_false (hF.t rfl) ?_
            refine wp_seq_k fun Kq31 hKq31 => ?_
            -- region 22 (law.go:167)
            refine wp_region_lit ?_
            refine wpList_stp (stp_gv hF (wanted_none rfl) rfl rfl (gv_eqlT rfl (hF.t rfl) (ev_const _ _) (rfl)) fun a hF => ?_)
            refine wpList_stp (stp_gv hF (wanted_none rfl) rfl rfl (gv_assign rfl (hF.t rfl)) fun a hF => ?_)
            refine wpList_nil ?_
            refine then_normal (hKq31 _ _ ?_)
            refine wp_cond_true (hF.t rfl) ?_
            refine wp_seq_k fun Kq32 hKq32 => ?_
            refine wp_seq_k fun Kq33 hKq33 => ?_
            -- region 23 (law.go:168)
            refine wp_region_lit ?_
            refine wpList_stp (stp_gv hF (wanted_none rfl) rfl rfl (gv_move rfl (hF.t rfl)) fun a hF => ?_)
            refine wpList_stp (stp_call hF (wanted_none rfl) rfl rfl Tryd.ok41 rfl (Evs.cons (hF.t rfl) Evs.nil) (dead_ok (hS.cell (k := 1) (i := 3) rfl rfl)) fun e w h => ?_)
            obtain ⟨rfl, hx⟩ := h
            refine ⟨_, rfl, fun a hF => ?_⟩
            replace hS := hS.ext hx
            clear hx
            rw [hd2] at hF
            refine wpList_stp (stp_gv hF (wanted_none rfl) rfl rfl (gv_not rfl (hF.t rfl)) fun a hF => ?_)
            refine wpList_nil ?_
            refine then_normal (hKq33 _ _ ?_)
            refine wp_cond_false (hF.t rfl) ?_
            refine wp_skip ?_
            refine then_normal (hKq32 _ _ ?_)
            refine wp_seq_k fun Kq34 hKq34 => ?_
            refine wp_seq_k fun Kq35 hKq35 => ?_
            -- region 25 (law.go:171)
            refine wp_region_lit ?_
            refine wpList_stp (stp_gv hF (wanted_none rfl) rfl rfl (gv_loadAll rfl Tryd.underlying63 rfl (Tryd.sz63.trans (congrArg some (rfl))) (hF.t rfl) hS (k := 5) rfl) fun a hF => ?_)
            refine wpList_stp (stp_gv hF (wanted_none rfl) rfl rfl (gv_loadAll rfl Tryd.underlying63 rfl (Tryd.sz63.trans (congrArg some (rfl))) (hF.t rfl) hS (k := 6) rfl) fun a hF => ?_)
            refine wpList_stp (stp_gv hF (wanted_none rfl) rfl rfl (gv_recEql rec3 rfl (hF.t rfl) (hF.t rfl)) fun a hF => ?_)
            rw [decide_eq_true (show (lo.getD rc0).a = (lo.getD rc0).a ∧ (lo.getD rc0).c = (lo.getD rc0).c ∧ (lo.getD rc0).p = (lo.getD rc0).p from ⟨rfl, rfl, rfl⟩)] at hF
            refine wpList_stp (stp_gv hF (wanted_none rfl) rfl rfl (gv_move rfl (hF.t rfl)) fun a hF => ?_)
            refine wpList_stp (stp_skip hF (unwanted_of hF rfl rfl (rfl) rfl) rfl rfl fun a hF => ?_)
            refine wpList_stp (stp_skip hF (unwanted_of hF rfl rfl (rfl) rfl) rfl rfl fun a hF => ?_)
            refine wpList_stp (stp_gv hF (wanted_none rfl) rfl rfl (gv_pickT rfl (hF.t rfl) (ev_const _ _)) fun a hF => ?_)
            refine wpList_nil ?_
            refine then_normal (hKq35 _ _ ?_)
            refine wp_cond_true (hF.t rfl) ?_
            -- region 26 (law.go:172)
            refine wp_region_lit ?_
            refine wpList_stp (stp_gv hF (wanted_none rfl) rfl rfl (gv_loadAll rfl Tryd.underlying63 rfl (Tryd.sz63.trans (congrArg some (rfl))) (hF.t rfl) hS (k := 3) rfl) fun a hF => ?_)
            refine wpList_stp (stp_storeAll hF (wanted_none rfl) rfl rfl (Tryd.sz63.trans (congrArg some (rfl))) (hF.t rfl) (hF.t rfl) ((by intro u hu; simp at hu; rcases hu with rfl | rfl | rfl <;> rfl)) hS (k := 5) rfl (rfl) fun w hS => ?_)
            refine wpList_nil ?_
            refine then_normal (hKq34 _ _ ?_)
            refine wp_seq_k fun Kq36 hKq36 => ?_
            obtain ⟨OF, hOF⟩ : ∃ OF, OF = openF D2.l 64 := ⟨_, rfl⟩
            rw [← hOF] at ho2
            -- region 27 (law.go:174)
            refine wp_region_lit ?_
            refine wpList_stp (stp_gv hF (wanted_none rfl) rfl rfl (gv_move rfl (hF.t rfl)) fun a hF => ?_)
            refine wpList_stp (stp_call hF (wanted_none rfl) rfl rfl Tryd.ok40 rfl (Evs.cons (hF.t rfl) Evs.nil) (again_call (dskW_of (k := 1) (k' := 2) hS rfl rfl) hK2) fun e w h => ?_)
            obtain ⟨d2, p2, c2, pad2, rfl, hc1, hc2, hN⟩ := h
            refine ⟨_, rfl, fun a hF => ?_⟩
            replace hS := hS.join hN (nw_cons rfl (nw_cons rfl nw_nil))
            simp only [List.cons_append, List.nil_append] at hS
            clear hN
            refine wpList_stp (stp_call hF (wanted_none rfl) rfl rfl Tryd.ok29 rfl (Evs.cons (hF.t rfl) Evs.nil) (open_ok (hG.ext (hS.toExt (nw_cons rfl (nw_cons rfl (nw_cons rfl (nw_cons rfl (nw_cons rfl (nw_cons rfl (nw_cons rfl (nw_cons rfl (nw_cons rfl (nw_cons rfl nw_nil)))))))))))) (dskW_of (k := 0) (k' := 1) hS rfl rfl) (again_ok hK2)) fun e w h => ?_)
            obtain ⟨v2, rfl, hN⟩ := h
            refine ⟨_, rfl, fun a hF => ?_⟩
            rw [show openF (againF D2).l 64 = OF from hOF.symm] at hF hN
            replace hS := hS.join hN (nw_cons rfl nw_nil)
            simp only [List.cons_append, List.nil_append] at hS
            clear hN
            refine wpList_stp (stp_gv hF (wanted_none rfl) rfl rfl (gv_move rfl (hF.t rfl)) fun a hF => ?_)
            refine wpList_stp (stp_gv hF (wanted_none rfl) rfl rfl (gv_extract rfl (hF.t rfl) rfl) fun a hF => ?_)
            refine wpList_stp (stp_gv hF (wanted_none rfl) rfl rfl (gv_extract rfl (hF.t rfl) rfl) fun a hF => ?_)
            refine wpList_stp (stp_gv hF (wanted_none rfl) rfl rfl (gv_extract rfl (hF.t rfl) rfl) fun a hF => ?_)
            refine wpList_stp (stp_alloc hF (wanted_none rfl) rfl rfl rfl Tryd.zv63 rfl hS fun r20 a w hF hS => ?_)
            refine wpList_stp (stp_gv hF (wanted_none rfl) rfl rfl (gv_assign rfl (hF.t rfl)) fun a hF => ?_)
            refine wpList_stp (stp_storeAll hF (wanted_none rfl) rfl rfl (Tryd.sz63.trans (congrArg some (rfl))) (hF.t rfl) (hF.t rfl) ((by intro u hu; simp at hu; rcases hu with rfl | rfl | rfl <;> rfl)) hS (k := 0) rfl (rfl) fun w hS => ?_)
            refine wpList_stp (stp_gv hF (wanted_none rfl) rfl rfl (gv_assign rfl (hF.t rfl)) fun a hF => ?_)
            refine wpList_nil ?_
            refine then_normal (hKq36 _ _ ?_)
            have hcase : (OF.f = true ∧ ((OF.r.a = (lo.getD rc0).a ∧ OF.r.c = (lo.getD rc0).c ∧ OF.r.p = (lo.getD rc0).p) ∧ lo.isSome = true ∨ OF.r.a = ca ∧ OF.r.c = cc ∧ OF.r.p = cp)) ∨ (OF.f = false ∧ lo = none) := by
              rcases ho2 with ho2 | ho2
              · cases lo with
                | none => rw [ho2, vinv_none hI]; exact .inr ⟨rfl, rfl⟩
                | some L0 => rw [ho2, vinv_open hI]; exact .inl ⟨rfl, .inl ⟨⟨rfl, rfl, rfl⟩, rfl⟩⟩
              · rw [ho2]; exact .inl ⟨rfl, .inr ⟨rfl, rfl, rfl⟩⟩
            clear ho2
            obtain ⟨og, ok, ⟨ga, gc, gp⟩, of⟩ := OF
            simp only at hcase
            rcases hcase with ⟨rfl, hcase⟩ | ⟨rfl, rfl⟩
            ·
              replace hS : St w0 w (⟨true, some r20, recO ga gc gp⟩ :: _) := hS
              refine wp_seq_k fun Kq37 hKq37 => ?_
              -- region 28 (law.go:175)
              refine wp_region_lit ?_
              refine wpList_stp (stp_gv hF (wanted_none rfl) rfl rfl (gv_move rfl (hF.t rfl)) fun a hF => ?_)
              refine wpList_stp (stp_gv hF (wanted_none rfl) rfl rfl (gv_eqlT rfl (hF.t rfl) (ev_const _ _) (rfl)) fun a hF => ?_)
              refine wpList_stp (stp_gv hF (wanted_none rfl) rfl rfl (gv_move rfl (hF.t rfl)) fun a hF => ?_)
              refine wpList_stp (stp_gv hF (wanted_of hF rfl rfl (rfl)) rfl rfl (gv_loadAll rfl Tryd.underlying63 rfl (Tryd.sz63.trans (congrArg some (rfl))) (hF.t rfl) hS (k := 0) rfl) fun a hF => ?_)
              refine wpList_stp (stp_gv hF (wanted_of hF rfl rfl (rfl)) rfl rfl (gv_loadAll rfl Tryd.underlying63 rfl (Tryd.sz63.trans (congrArg some (rfl))) (hF.t rfl) hS (k := 10) rfl) fun a hF => ?_)
              refine wpList_stp (stp_gv hF (wanted_of hF rfl rfl (rfl)) rfl rfl (gv_recEql rec3 rfl (hF.t rfl) (hF.t rfl)) fun a hF => ?_)
              refine wpList_stp (stp_gv hF (wanted_of hF rfl rfl (rfl)) rfl rfl (gv_move rfl (hF.t rfl)) fun a hF => ?_)
              refine wpList_stp (stp_gvG hF rfl rfl rfl rfl rfl (fun hg => gv_move rfl (hF.t rfl)) fun a hF => ?_)
              refine wpList_stp (stp_gv hF (wanted_of hF rfl rfl (rfl)) rfl rfl (gv_pickAnd rfl (hF.t rfl) (hF.t rfl) (ev_const _ _)) fun a hF => ?_)
              refine wpList_stp (stp_gv hF (wanted_of hF rfl rfl (rfl)) rfl rfl (gv_move rfl (hF.t rfl)) fun a hF => ?_)
              refine wpList_stp (stp_gvG' hF rfl rfl rfl rfl rfl (fun hg => gv_loadAll (cs := [sV ga, sV gc, .bool gp]) rfl Tryd.underlying63 rfl Tryd.sz63 (hF.t rfl) hS (k := 0) rfl) fun a hF => ?_)
              refine wpList_stp (stp_gvG' hF rfl rfl rfl rfl rfl (fun hg => gv_loadAll (cs := [sV ca, sV cc, .bool cp]) rfl Tryd.underlying63 rfl Tryd.sz63 (hF.t rfl) hS (k := 9) rfl) fun a hF => ?_)
              refine wpList_stp (stp_gvG' hF rfl rfl rfl rfl rfl (fun hg => gv_recEql rec3 rfl ((hF.t rfl).trans (if_neg hg)) ((hF.t rfl).trans (if_neg hg))) fun a hF => ?_)
              refine wpList_stp (stp_gv hF (wanted_of hF rfl rfl (rfl)) rfl rfl (gv_pickOr rfl (hF.t rfl) (ev_const _ _) (hF.t rfl)) fun a hF => ?_)
              rw [decide_eq_true (show (ga = (lo.getD rc0).a ∧ gc = (lo.getD rc0).c ∧ gp = (lo.getD rc0).p) ∧ lo.isSome = true ∨ (ga = ca ∧ gc = cc ∧ gp = cp) from hcase)] at hF
              refine wpList_stp (stp_gv hF (wanted_none rfl) rfl rfl (gv_pickT rfl (hF.t rfl) (hF.t rfl)) fun a hF => ?_)
              refine wpList_stp (stp_gv hF (wanted_none rfl) rfl rfl (gv_move rfl (hF.t rfl)) fun a hF => ?_)
              refine wpList_stp (stp_skip hF (unwanted_of hF rfl rfl (rfl) rfl) rfl rfl fun a hF => ?_)
              refine wpList_stp (stp_skip hF (unwanted_of hF rfl rfl (rfl) rfl) rfl rfl fun a hF => ?_)
              refine wpList_stp (stp_skip hF (unwanted_of hF rfl rfl (rfl) rfl) rfl rfl fun a hF => ?_)
              refine wpList_stp (stp_skip hF (unwanted_undef hF rfl rfl rfl) rfl rfl fun a hF => ?_)
              refine wpList_stp (stp_skip hF (unwanted_undef hF rfl rfl rfl) rfl rfl fun a hF => ?_)
              refine wpList_stp (stp_skip hF (unwanted_of hF rfl rfl (rfl) rfl) rfl rfl fun a hF => ?_)
              refine wpList_stp (stp_gv hF (wanted_none rfl) rfl rfl (gv_pickT rfl (hF.t rfl) (ev_const _ _)) fun a hF => ?_)
              refine wpList_stp (stp_gv hF (wanted_none rfl) rfl rfl (gv_assign rfl (hF.t rfl)) fun a hF => ?_)
              refine wpList_nil ?_
              refine then_normal (hKq37 _ _ ?_)
              refine wp_ret ?_
              refine block_ret ?_
              refine block_ret ?_
              refine then_ret ?_
              refine then_ret ?_
              refine block_ret ?_
              refine then_ret ?_
              refine ret1 (fn := Tryd.f12) (t := 6) hF rfl rfl ?_
              exact ⟨rfl, hS.toExt (nw_cons rfl (nw_cons rfl (nw_cons rfl (nw_cons rfl (nw_cons rfl (nw_cons rfl (nw_cons rfl (nw_cons rfl (nw_cons rfl (nw_cons rfl (nw_cons rfl (nw_cons rfl nw_nil))))))))))))⟩
            ·
              refine wp_seq_k fun Kq38 hKq38 => ?_
              -- region 28 (law.go:175)
              refine wp_region_lit ?_
              refine wpList_stp (stp_gv hF (wanted_none rfl) rfl rfl (gv_move rfl (hF.t rfl)) fun a hF => ?_)
              refine wpList_stp (stp_gv hF (wanted_none rfl) rfl rfl (gv_eqlF rfl (hF.t rfl) (ev_const _ _) (by show ¬ ((21 : Int) = 0); decide)) fun a hF => ?_)
              refine wpList_stp (stp_gv hF (wanted_none rfl) rfl rfl (gv_move rfl (hF.t rfl)) fun a hF => ?_)
              refine wpList_stp (stp_skip hF (unwanted_of hF rfl rfl (rfl) rfl) rfl rfl fun a hF => ?_)
              refine wpList_stp (stp_skip hF (unwanted_of hF rfl rfl (rfl) rfl) rfl rfl fun a hF => ?_)
              refine wpList_stp (stp_skip hF (unwanted_of hF rfl rfl (rfl) rfl) rfl rfl fun a hF => ?_)
              refine wpList_stp (stp_skip hF (unwanted_of hF rfl rfl (rfl) rfl) rfl rfl fun a hF => ?_)
              refine wpList_stp (stp_skip hF (unwanted_undef hF rfl rfl rfl) rfl rfl fun a hF => ?_)
              refine wpList_stp (stp_skip hF (unwanted_of hF rfl rfl (rfl) rfl) rfl rfl fun a hF => ?_)
              refine wpList_stp (stp_skip hF (unwanted_of hF rfl rfl (rfl) rfl) rfl rfl fun a hF => ?_)
              refine wpList_stp (stp_skip hF (unwanted_undef hF rfl rfl rfl) rfl rfl fun a hF => ?_)
              refine wpList_stp (stp_skip hF (unwanted_undef hF rfl rfl rfl) rfl rfl fun a hF => ?_)
              refine wpList_stp (stp_skip hF (unwanted_undef hF rfl rfl rfl) rfl rfl fun a hF => ?_)
              refine wpList_stp (stp_skip hF (unwanted_of hF rfl rfl (rfl) rfl) rfl rfl fun a hF => ?_)
              refine wpList_stp (stp_gv hF (wanted_none rfl) rfl rfl (gv_pickF rfl (hF.t rfl) (ev_const _ _)) fun a hF => ?_)
              refine wpList_stp (stp_gv hF (wanted_none rfl) rfl rfl (gv_move rfl (hF.t rfl)) fun a hF => ?_)
              refine wpList_stp (stp_gv hF (wanted_of hF rfl rfl (rfl)) rfl rfl (gv_move rfl (hF.t rfl)) fun a hF => ?_)
              refine wpList_stp (stp_gv hF (wanted_of hF rfl rfl (rfl)) rfl rfl (gv_eqlT rfl (hF.t rfl) (ev_const _ _) (rfl)) fun a hF => ?_)
              refine wpList_stp (stp_gv hF (wanted_of hF rfl rfl (rfl)) rfl rfl (gv_move rfl (hF.t rfl)) fun a hF => ?_)
              refine wpList_stp (stp_gv hF (wanted_of hF rfl rfl (rfl)) rfl rfl (gv_move rfl (hF.t rfl)) fun a hF => ?_)
              refine wpList_stp (stp_gv hF (wanted_of hF rfl rfl (rfl)) rfl rfl (gv_not rfl (hF.t rfl)) fun a hF => ?_)
              refine wpList_stp (stp_gv hF (wanted_of hF rfl rfl (rfl)) rfl rfl (gv_pickT rfl (hF.t rfl) (hF.t rfl)) fun a hF => ?_)
              refine wpList_stp (stp_gv hF (wanted_none rfl) rfl rfl (gv_pickF rfl (hF.t rfl) (hF.t rfl)) fun a hF => ?_)
              refine wpList_stp (stp_gv hF (wanted_none rfl) rfl rfl (gv_assign rfl (hF.t rfl)) fun a hF => ?_)
              refine wpList_nil ?_
              refine then_normal (hKq38 _ _ ?_)
              refine wp_ret ?_
              refine block_ret ?_
              refine block_ret ?_
              refine then_ret ?_
              refine then_ret ?_
              refine block_ret ?_
              refine then_ret ?_
              refine ret1 (fn := Tryd.f12) (t := 6) hF rfl rfl ?_
              exact ⟨rfl, hS.toExt (nw_cons rfl (nw_cons rfl (nw_cons rfl (nw_cons rfl (nw_cons rfl (nw_cons rfl (nw_cons rfl (nw_cons rfl (nw_cons rfl (nw_cons rfl (nw_cons rfl (nw_cons rfl nw_nil))))))))))))⟩
    ·
      refine wp_exit ?_
      refine then_exit ?_
      refine then_exit ?_
      refine block_exit ?_
      refine then_normal (hKq12 _ _ ?_)
      refine wp_seq_k fun Kq39 hKq39 => ?_
      -- region 31 (law.go:181)
      refine wp_region_lit ?_
      refine wpList_stp (stp_gv hF (wanted_none rfl) rfl rfl (gv_move rfl (hF.t rfl)) fun a hF => ?_)
      refine wpList_stp (stp_call hF (wanted_none rfl) rfl rfl Tryd.ok40 rfl (Evs.cons (hF.t rfl) Evs.nil) (again_call (dskW_of (k := 1) (k' := 2) hS rfl rfl) hI.ok) fun e w h => ?_)
      obtain ⟨d2, p2, c2, pad2, rfl, hc1, hc2, hN⟩ := h
      refine ⟨_, rfl, fun a hF => ?_⟩
      replace hS := hS.join hN (nw_cons rfl (nw_cons rfl nw_nil))
      simp only [List.cons_append, List.nil_append] at hS
      clear hN
      refine wpList_stp (stp_call hF (wanted_none rfl) rfl rfl Tryd.ok29 rfl (Evs.cons (hF.t rfl) Evs.nil) (open_ok (hG.ext (hS.toExt (nw_cons rfl (nw_cons rfl (nw_cons rfl (nw_cons rfl (nw_cons rfl (nw_cons rfl (nw_cons rfl (nw_cons rfl nw_nil)))))))))) (dskW_of (k := 0) (k' := 1) hS rfl rfl) (again_ok hI.ok)) fun e w h => ?_)
      obtain ⟨v2, rfl, hN⟩ := h
      refine ⟨_, rfl, fun a hF => ?_⟩
      rw [show openF (againF D).l 64 = openF D.l 64 from rfl] at hF hN
      replace hS := hS.join hN (nw_cons rfl nw_nil)
      simp only [List.cons_append, List.nil_append] at hS
      clear hN
      refine wpList_stp (stp_gv hF (wanted_none rfl) rfl rfl (gv_move rfl (hF.t rfl)) fun a hF => ?_)
      refine wpList_stp (stp_gv hF (wanted_none rfl) rfl rfl (gv_extract rfl (hF.t rfl) rfl) fun a hF => ?_)
      refine wpList_stp (stp_gv hF (wanted_none rfl) rfl rfl (gv_extract rfl (hF.t rfl) rfl) fun a hF => ?_)
      refine wpList_stp (stp_gv hF (wanted_none rfl) rfl rfl (gv_extract rfl (hF.t rfl) rfl) fun a hF => ?_)
      refine wpList_stp (stp_alloc hF (wanted_none rfl) rfl rfl rfl Tryd.zv63 rfl hS fun r23 a w hF hS => ?_)
      refine wpList_stp (stp_gv hF (wanted_none rfl) rfl rfl (gv_assign rfl (hF.t rfl)) fun a hF => ?_)
      refine wpList_stp (stp_storeAll hF (wanted_none rfl) rfl rfl (Tryd.sz63.trans (congrArg some (rfl))) (hF.t rfl) (hF.t rfl) ((by intro u hu; simp at hu; rcases hu with rfl | rfl | rfl <;> rfl)) hS (k := 0) rfl (rfl) fun w hS => ?_)
      refine wpList_stp (stp_gv hF (wanted_none rfl) rfl rfl (gv_assign rfl (hF.t rfl)) fun a hF => ?_)
      refine wpList_nil ?_
      refine then_normal (hKq39 _ _ ?_)
      rcases lo with _ | ⟨la_, lc_, lp_⟩
      ·
        rw [vinv_none hI] at hF hS
        refine wp_seq_k fun Kq40 hKq40 => ?_
        -- region 32 (law.go:182)
        refine wp_region_lit ?_
        refine wpList_stp (stp_gv hF (wanted_none rfl) rfl rfl (gv_move rfl (hF.t rfl)) fun a hF => ?_)
        refine wpList_stp (stp_gv hF (wanted_none rfl) rfl rfl (gv_eqlF rfl (hF.t rfl) (ev_const _ _) (by decide)) fun a hF => ?_)
        refine wpList_stp (stp_gv hF (wanted_none rfl) rfl rfl (gv_move rfl (hF.t rfl)) fun a hF => ?_)
        refine wpList_stp (stp_skip hF (unwanted_of hF rfl rfl (rfl) rfl) rfl rfl fun a hF => ?_)
        refine wpList_stp (stp_skip hF (unwanted_of hF rfl rfl (rfl) rfl) rfl rfl fun a hF => ?_)
        refine wpList_stp (stp_skip hF (unwanted_of hF rfl rfl (rfl) rfl) rfl rfl fun a hF => ?_)
        refine wpList_stp (stp_gv hF (wanted_none rfl) rfl rfl (gv_pickF rfl (hF.t rfl) (ev_const _ _)) fun a hF => ?_)
        refine wpList_stp (stp_gv hF (wanted_none rfl) rfl rfl (gv_move rfl (hF.t rfl)) fun a hF => ?_)
        refine wpList_stp (stp_gv hF (wanted_of hF rfl rfl (rfl)) rfl rfl (gv_move rfl (hF.t rfl)) fun a hF => ?_)
        refine wpList_stp (stp_gv hF (wanted_of hF rfl rfl (rfl)) rfl rfl (gv_eqlT rfl (hF.t rfl) (ev_const _ _) (rfl)) fun a hF => ?_)
        refine wpList_stp (stp_gv hF (wanted_of hF rfl rfl (rfl)) rfl rfl (gv_move rfl (hF.t rfl)) fun a hF => ?_)
        refine wpList_stp (stp_gv hF (wanted_of hF rfl rfl (rfl)) rfl rfl (gv_move rfl (hF.t rfl)) fun a hF => ?_)
        refine wpList_stp (stp_gv hF (wanted_of hF rfl rfl (rfl)) rfl rfl (gv_not rfl (hF.t rfl)) fun a hF => ?_)
        refine wpList_stp (stp_gv hF (wanted_of hF rfl rfl (rfl)) rfl rfl (gv_pickT rfl (hF.t rfl) (hF.t rfl)) fun a hF => ?_)
        refine wpList_stp (stp_gv hF (wanted_none rfl) rfl rfl (gv_pickF rfl (hF.t rfl) (hF.t rfl)) fun a hF => ?_)
        refine wpList_stp (stp_gv hF (wanted_none rfl) rfl rfl (gv_assign rfl (hF.t rfl)) fun a hF => ?_)
        refine wpList_nil ?_
        refine then_normal (hKq40 _ _ ?_)
        refine wp_ret ?_
        refine ret1 (fn := Tryd.f12) (t := 6) hF rfl rfl ?_
        exact ⟨rfl, hS.toExt (nw_cons rfl (nw_cons rfl (nw_cons rfl (nw_cons rfl (nw_cons rfl (nw_cons rfl (nw_cons rfl (nw_cons rfl (nw_cons rfl (nw_cons rfl nw_nil))))))))))⟩
      ·
        rw [vinv_open hI] at hF hS
        replace hS : St w0 w (⟨true, some r23, recO la_ lc_ lp_⟩ :: _) := hS
        refine wp_seq_k fun Kq41 hKq41 => ?_
        -- region 32 (law.go:182)
        refine wp_region_lit ?_
        refine wpList_stp (stp_gv hF (wanted_none rfl) rfl rfl (gv_move rfl (hF.t rfl)) fun a hF => ?_)
        refine wpList_stp (stp_gv hF (wanted_none rfl) rfl rfl (gv_eqlT rfl (hF.t rfl) (ev_const _ _) (rfl)) fun a hF => ?_)
        refine wpList_stp (stp_gv hF (wanted_none rfl) rfl rfl (gv_move rfl (hF.t rfl)) fun a hF => ?_)
        refine wpList_stp (stp_gv hF (wanted_of hF rfl rfl (rfl)) rfl rfl (gv_loadAll rfl Tryd.underlying63 rfl (Tryd.sz63.trans (congrArg some (rfl))) (hF.t rfl) hS (k := 0) rfl) fun a hF => ?_)
        refine wpList_stp (stp_gv hF (wanted_of hF rfl rfl (rfl)) rfl rfl (gv_loadAll rfl Tryd.underlying63 rfl (Tryd.sz63.trans (congrArg some (rfl))) (hF.t rfl) hS (k := 8) rfl) fun a hF => ?_)
        refine wpList_stp (stp_gv hF (wanted_of hF rfl rfl (rfl)) rfl rfl (gv_recEql rec3 rfl (hF.t rfl) (hF.t rfl)) fun a hF => ?_)
        rw [decide_eq_true (show la_ = ((some (⟨la_, lc_, lp_⟩ : Rc)).getD rc0).a ∧ lc_ = ((some (⟨la_, lc_, lp_⟩ : Rc)).getD rc0).c ∧ lp_ = ((some (⟨la_, lc_, lp_⟩ : Rc)).getD rc0).p from ⟨rfl, rfl, rfl⟩)] at hF
        refine wpList_stp (stp_gv hF (wanted_none rfl) rfl rfl (gv_pickT rfl (hF.t rfl) (hF.t rfl)) fun a hF => ?_)
        refine wpList_stp (stp_gv hF (wanted_none rfl) rfl rfl (gv_move rfl (hF.t rfl)) fun a hF => ?_)
        refine wpList_stp (stp_skip hF (unwanted_of hF rfl rfl (rfl) rfl) rfl rfl fun a hF => ?_)
        refine wpList_stp (stp_skip hF (unwanted_of hF rfl rfl (rfl) rfl) rfl rfl fun a hF => ?_)
        refine wpList_stp (stp_skip hF (unwanted_of hF rfl rfl (rfl) rfl) rfl rfl fun a hF => ?_)
        refine wpList_stp (stp_skip hF (unwanted_undef hF rfl rfl rfl) rfl rfl fun a hF => ?_)
        refine wpList_stp (stp_skip hF (unwanted_undef hF rfl rfl rfl) rfl rfl fun a hF => ?_)
        refine wpList_stp (stp_skip hF (unwanted_of hF rfl rfl (rfl) rfl) rfl rfl fun a hF => ?_)
        refine wpList_stp (stp_gv hF (wanted_none rfl) rfl rfl (gv_pickT rfl (hF.t rfl) (ev_const _ _)) fun a hF => ?_)
        refine wpList_stp (stp_gv hF (wanted_none rfl) rfl rfl (gv_assign rfl (hF.t rfl)) fun a hF => ?_)
        refine wpList_nil ?_
        refine then_normal (hKq41 _ _ ?_)
        refine wp_ret ?_
        refine ret1 (fn := Tryd.f12) (t := 6) hF rfl rfl ?_
        exact ⟨rfl, hS.toExt (nw_cons rfl (nw_cons rfl (nw_cons rfl (nw_cons rfl (nw_cons rfl (nw_cons rfl (nw_cons rfl (nw_cons rfl (nw_cons rfl (nw_cons rfl nw_nil))))))))))⟩


end Go.Proofs.YtfhalnobaeogkaaDoor

/- What is proved: VaultTurns returns true. -/
import Derived.Test.YtfhalnobaeogkaaDoorProg
import Derived.Test.YtfhalnobaeogkaaDoorFwSep
import Derived.KernelRfl
import Derived.Test.YtfhalnobaeogkaaDoorFwSto
import Derived.Test.YtfhalnobaeogkaaDoorFwVlt
import Derived.Test.YtfhalnobaeogkaaDoorFwApp
import Derived.Test.YtfhalnobaeogkaaDoorFwWord
import Derived.Test.YtfhalnobaeogkaaDoorFwPkt
import Derived.Test.YtfhalnobaeogkaaDoorFwTok
import Derived.Test.YtfhalnobaeogkaaDoorDig
import Derived.Test.YtfhalnobaeogkaaDoorSum
import Derived.Test.YtfhalnobaeogkaaDoorWire
import Derived.Test.YtfhalnobaeogkaaDoorPktW
import Derived.Test.YtfhalnobaeogkaaDoorPktR
import Derived.Test.YtfhalnobaeogkaaDoorWireA
import Derived.Test.YtfhalnobaeogkaaDoorDisk
import Derived.Test.YtfhalnobaeogkaaDoorFwZer
import Derived.Test.YtfhalnobaeogkaaDoorFwSeq
import Derived.Test.YtfhalnobaeogkaaDoorWireA
import Derived.Test.YtfhalnobaeogkaaDoorHead
import Derived.Test.YtfhalnobaeogkaaDoorHalf
import Derived.Test.YtfhalnobaeogkaaDoorOpen
import Derived.Test.YtfhalnobaeogkaaDoorSave
import Derived.Test.YtfhalnobaeogkaaDoorVPure
import Derived.Test.YtfhalnobaeogkaaDoorRefH
import Derived.Test.YtfhalnobaeogkaaDoorRefSum
import Derived.Test.YtfhalnobaeogkaaDoorRefCur
import Derived.Test.YtfhalnobaeogkaaDoorRefBy
import Derived.Test.YtfhalnobaeogkaaDoorRefIm
import Derived.Test.YtfhalnobaeogkaaDoorRefHf
import Derived.Test.YtfhalnobaeogkaaDoorRefNw
import Derived.Test.YtfhalnobaeogkaaDoorRefLaw
import Derived.Test.YtfhalnobaeogkaaDoorLawVN
import Derived.Test.YtfhalnobaeogkaaDoorLawVF
import Derived.Test.YtfhalnobaeogkaaDoorFwWide
import Derived.Test.YtfhalnobaeogkaaDoorVCrash
import Derived.Test.YtfhalnobaeogkaaDoorVCall
import Derived.Test.YtfhalnobaeogkaaDoorLawV1
import Derived.Test.YtfhalnobaeogkaaDoorVTurn
set_option linter.unusedVariables false
set_option linter.unusedSimpArgs false
namespace Go.Proofs.YtfhalnobaeogkaaDoor
open Go Go.RowKit Go.Fw

theorem Tryd.ok36 : CallOk Tryd.prog 36 := ⟨_, Tryd.func36, by kernel_rfl, by kernel_rfl⟩

set_option maxHeartbeats 2000000 in
theorem vturns_true {v0 : Value} {cs : List CallV} {w0 : World} (hG : Glob w0) (hv : CVd w0 v0 cs) :
    Calls Tryd.prog 10 #[v0] w0 fun e w' => e = .returned (.bool true) ∧ Ext w0 w' := by
  obtain ⟨A1, c1, hv1, _⟩ := hv.is
  subst hv1
  have hlen := hv.len
  refine calls_start 107 Tryd.func10 rfl Tryd.ntmps10 rfl fun a hF => ?_
  have hS := St.refl w0
  refine wp_seq_k fun Kq1 hKq1 => ?_
  -- region 0 (law.go:261)
  refine wp_region_lit ?_
  refine wpList_stp (stp_gv hF (wanted_none rfl) rfl rfl (gv_assign rfl (ev_const _ _)) fun a hF => ?_)
  refine wpList_nil ?_
  refine then_normal (hKq1 _ _ ?_)
  refine wp_seq_k fun Kq2 hKq2 => ?_
  refine wp_seq_k fun Kq3 hKq3 => ?_
  -- region 1 (law.go:262)
  refine wp_region_lit ?_
  refine wpList_stp (stp_call hF (wanted_none rfl) rfl rfl Tryd.ok27 rfl Evs.nil (fit18_ok hG) fun e w h => ?_)
  obtain ⟨rfl, hx⟩ := h
  refine ⟨_, rfl, fun a hF => ?_⟩
  replace hS := hS.ext hx
  clear hx
  refine wpList_stp (stp_gv hF (wanted_none rfl) rfl rfl (gv_not rfl (hF.t rfl)) fun a hF => ?_)
  refine wpList_nil ?_
  refine then_normal (hKq3 _ _ ?_)
  refine wp_cond_false (hF.t rfl) ?_
  refine wp_skip ?_
  refine then_normal (hKq2 _ _ ?_)
  refine wp_seq_k fun Kq4 hKq4 => ?_
  refine wp_seq_k fun Kq5 hKq5 => ?_
  -- region 3 (law.go:265)
  refine wp_region_lit ?_
  refine wpList_stp (stp_gv hF (wanted_none rfl) rfl rfl (gv_move rfl (hF.t rfl)) fun a hF => ?_)
  refine wpList_stp (stp_call hF (wanted_none rfl) rfl rfl Tryd.ok36 rfl (Evs.cons (hF.t rfl) Evs.nil) (lightV_ok (hv.ext (hS.toExt nw_nil))) fun e w h => ?_)
  obtain ⟨rfl, hx⟩ := h
  refine ⟨_, rfl, fun a hF => ?_⟩
  replace hS := hS.ext hx
  clear hx
  refine wpList_stp (stp_gv hF (wanted_none rfl) rfl rfl (gv_not rfl (hF.t rfl)) fun a hF => ?_)
  rw [← decide_not] at hF
  refine wpList_nil ?_
  refine then_normal (hKq5 _ _ ?_)
  refine cond_dec (hF.t rfl) (fun h24 => ?_) (fun h24 => ?_)
  ·
    refine wp_seq_k fun Kq6 hKq6 => ?_
    -- region 4 (law.go:266)
    refine wp_region_lit ?_
    refine wpList_stp (stp_gv hF (wanted_none rfl) rfl rfl (gv_assign rfl (ev_const _ _)) fun a hF => ?_)
    refine wpList_nil ?_
    refine then_normal (hKq6 _ _ ?_)
    refine wp_ret ?_
    refine then_ret ?_
    refine ret1 (fn := Tryd.f10) (t := 2) hF rfl rfl ?_
    exact ⟨rfl, hS.toExt nw_nil⟩
  ·
    have hli := Decidable.not_not.1 h24
    have hn150 := Nat.le_trans (lightV_len cs cs.length (Nat.le_refl _)) hli
    refine wp_skip ?_
    refine then_normal (hKq4 _ _ ?_)
    refine wp_seq_k fun Kq7 hKq7 => ?_
    -- region 5 (law.go:268)
    refine wp_region_lit ?_
    refine wpList_stp (stp_call hF (wanted_none rfl) rfl rfl Tryd.ok28 rfl (Evs.cons rfl Evs.nil) (new_call (n := 200) (by omega) (by omega)) fun e w h => ?_)
    obtain ⟨d, p, rfl, hN⟩ := h
    refine ⟨_, rfl, fun a hF => ?_⟩
    replace hS := hS.join hN (nw_cons rfl (nw_cons rfl nw_nil))
    simp only [List.cons_append, List.nil_append] at hS
    clear hN
    refine wpList_stp (stp_gv hF (wanted_none rfl) rfl rfl (gv_move rfl (hF.t rfl)) fun a hF => ?_)
    refine wpList_stp (stp_gv hF (wanted_none rfl) rfl rfl (gv_extract rfl (hF.t rfl) rfl) fun a hF => ?_)
    refine wpList_stp (stp_gv hF (wanted_none rfl) rfl rfl (gv_extract rfl (hF.t rfl) rfl) fun a hF => ?_)
    refine wpList_stp (stp_gv hF (wanted_none rfl) rfl rfl (gv_assign rfl (hF.t rfl)) fun a hF => ?_)
    refine wpList_stp (stp_gv hF (wanted_none rfl) rfl rfl (gv_assign rfl (hF.t rfl)) fun a hF => ?_)
    refine wpList_nil ?_
    refine then_normal (hKq7 _ _ ?_)
    refine wp_seq_k fun Kq8 hKq8 => ?_
    -- region 6 (law.go:269)
    refine wp_region_lit ?_
    refine wpList_stp (stp_gv hF (wanted_none rfl) rfl rfl (gv_move rfl (hF.t rfl)) fun a hF => ?_)
    refine wpList_stp (stp_call hF (wanted_none rfl) rfl rfl Tryd.ok29 rfl (Evs.cons (hF.t rfl) Evs.nil) (open_ok (hG.ext (hS.toExt (nw_cons rfl (nw_cons rfl nw_nil)))) (dskW_of (k := 0) (k' := 1) hS rfl rfl) (new_ok (by decide) (by decide))) fun e w h => ?_)
    obtain ⟨v, rfl, hN⟩ := h
    refine ⟨_, rfl, fun a hF => ?_⟩
    rw [new_open (by decide)] at hF hN
    replace hS := hS.join hN (nw_cons rfl nw_nil)
    simp only [List.cons_append, List.nil_append] at hS
    clear hN
    refine wpList_stp (stp_gv hF (wanted_none rfl) rfl rfl (gv_move rfl (hF.t rfl)) fun a hF => ?_)
    refine wpList_stp (stp_gv hF (wanted_none rfl) rfl rfl (gv_extract rfl (hF.t rfl) rfl) fun a hF => ?_)
    refine wpList_stp (stp_gv hF (wanted_none rfl) rfl rfl (gv_extract rfl (hF.t rfl) rfl) fun a hF => ?_)
    refine wpList_stp (stp_gv hF (wanted_none rfl) rfl rfl (gv_extract rfl (hF.t rfl) rfl) fun a hF => ?_)
    refine wpList_stp (stp_alloc hF (wanted_none rfl) rfl rfl rfl Tryd.zv63 rfl hS fun r6 a w hF hS => ?_)
    refine wpList_stp (stp_gv hF (wanted_none rfl) rfl rfl (gv_assign rfl (hF.t rfl)) fun a hF => ?_)
    refine wpList_stp (stp_storeAll hF (wanted_none rfl) rfl rfl (Tryd.sz63.trans (congrArg some (rfl))) (hF.t rfl) (hF.t rfl) ((by intro u hu; simp at hu; rcases hu with rfl | rfl | rfl <;> rfl)) hS (k := 0) rfl (rfl) fun w hS => ?_)
    refine wpList_stp (stp_gv hF (wanted_none rfl) rfl rfl (gv_assign rfl (hF.t rfl)) fun a hF => ?_)
    refine wpList_nil ?_
    refine then_normal (hKq8 _ _ ?_)
    refine wp_seq_k fun Kq9 hKq9 => ?_
    -- region 7 (law.go:270)
    refine wp_region_lit ?_
    refine wpList_stp (stp_gv hF (wanted_none rfl) rfl rfl (gv_assign rfl (ev_const _ _)) fun a hF => ?_)
    refine wpList_nil ?_
    refine then_normal (hKq9 _ _ ?_)
    refine wp_seq_k fun Kq10 hKq10 => ?_
    refine wp_seq_k fun Kq11 hKq11 => ?_
    -- region 8 (law.go:271)
    refine wp_region_lit ?_
    refine wpList_stp (stp_gv hF (wanted_none rfl) rfl rfl (gv_move rfl (hF.t rfl)) fun a hF => ?_)
    refine wpList_stp (stp_gv hF (wanted_none rfl) rfl rfl (gv_len rfl Tryd.underlying83 (hF.t rfl)) fun a hF => ?_)
    refine wpList_stp (stp_gv hF (wanted_none rfl) rfl rfl (gv_move rfl (ev_const _ _)) fun a hF => ?_)
    refine wpList_nil ?_
    refine then_normal (hKq11 _ _ ?_)
    refine wp_block ?_
    replace hS := hS.move (k := 3) rfl
    replace hS := hS.move (k := 3) rfl
    replace hS := hS.move (k := 3) rfl
    simp only [List.eraseIdx_cons_succ, List.eraseIdx_cons_zero] at hS
    replace hS := hS.addNil (blk 63 (rowR [] ++ []))
    replace hS := hS.move (k := 3) rfl
    replace hS := hS.move (k := 3) rfl
    replace hS := hS.move (k := 3) rfl
    simp only [List.eraseIdx_cons_succ, List.eraseIdx_cons_zero] at hS
    refine wp_loop_n (fun nn a w => ∃ (i n : Nat) (V : Vt) (D : Dk) (rs : List Rc) (ob : Option Nat) (cap : Nat) (pad : List Value), i ≤ cs.length ∧ nn = cs.length - i ∧ V.g.toNat ≤ i ∧ n ≤ i ∧ rs.length = n ∧ TInv V D rs ∧ RowK ob n cap 3 (rowR rs) pad ∧ Fr 107 a [(0, .slice A1 cs.length c1), (3, .pointer (some ⟨d, 0, none⟩)), (5, .pointer (some ⟨v, 0, none⟩)), (8, ownV ob n cap), (35, .slice A1 cs.length c1), (36, vI cs.length), (37, vI i)] ∧ St w0 w (⟨true, some v, vltO d V.g V.k⟩ :: ⟨true, some d, dskO p 200 200 D⟩ :: ⟨true, some p, datO D []⟩ :: [⟨true, ob, blk 63 (rowR rs ++ pad)⟩, ⟨true, some r6, recO [] [] false⟩])) cs.length ⟨0, 0, ⟨0, 1⟩, newF 200, [], none, 0, [], by omega, by omega, Nat.zero_le _, Nat.le_refl _, rfl, tinv_new, ⟨fun _ => ⟨rfl, rfl, rfl⟩, rfl, rfl, Nat.le_refl _, Nat.zero_le _⟩, hF.sub ⟨rfl, rfl, rfl, rfl, rfl, rfl, rfl, trivial⟩, hS⟩ ?_
    rintro nn a w ⟨i, n, V, D, rs, ob, cap, pad, hi, hnn, hgi, hni, hrl, hT, hR, hF, hS⟩
    refine wp_seq_k fun Kq12 hKq12 => ?_
    -- region 9 (law.go:271)
    refine wp_region_lit ?_
    refine wpList_stp (stp_gv hF (wanted_none rfl) rfl rfl (gv_lss rfl (hF.t rfl) (hF.t rfl)) fun a hF => ?_)
    refine wpList_nil ?_
    refine then_normal (hKq12 _ _ ?_)
    refine wp_seq_k fun Kq13 hKq13 => ?_
    refine cond_dec (hF.t rfl) (fun h38 => ?_) (fun h38 => ?_)
    ·
      obtain ⟨b1, o1, ⟨kd, ca, cc, cp, cn, ct⟩, hA1, hx1, hcell, hca, hcc, hcn, hct⟩ := hv.at (i := i) (by omega)
      simp only at hca hcc hcn hct
      subst hA1
      have hsm := lightV_small hli hx1
      simp only at hsm
      refine wp_skip ?_
      refine then_normal (hKq13 _ _ ?_)
      refine wp_seq_k fun Kq14 hKq14 => ?_
      refine wp_block ?_
      refine wp_seq_k fun Kq15 hKq15 => ?_
      -- region 10 (law.go:271)
      refine wp_region_lit ?_
      refine wpList_stp (stp_gv hF (wanted_none rfl) rfl rfl (gv_indexSl rfl Tryd.underlying83 Tryd.sz87 (hF.t rfl) (hF.t rfl) (by omega)) fun a hF => ?_)
      refine wpList_stp (stp_gv hF (wanted_none rfl) rfl rfl (gv_loadAgg (vs := [.int .i64 kd, sV ca, sV cc, .bool cp, .int .i64 cn, .int .i64 ct]) rfl Tryd.underlying87 rfl (Tryd.sz87.trans (congrArg some (by rfl))) (hF.t rfl) (fun j u hu => ext_cell (hS.toExt (nw_cons rfl (nw_cons rfl (nw_cons rfl (nw_cons rfl (nw_cons rfl nw_nil)))))) (hcell j u hu))) fun a hF => ?_)
      refine wpList_stp (stp_alloc hF (wanted_none rfl) rfl rfl rfl Tryd.zv87 rfl hS fun cx a w hF hS => ?_)
      refine wpList_stp (stp_storeAll hF (wanted_none rfl) rfl rfl (Tryd.sz87.trans (congrArg some (by rfl))) (hF.t rfl) (hF.t rfl) (cellsV_one ⟨kd, ca, cc, cp, cn, ct⟩) hS (k := 0) rfl (by rfl) fun w hS => ?_)
      refine wpList_nil ?_
      refine then_normal (hKq15 _ _ ?_)
      refine wp_seq_k fun Kq16 hKq16 => ?_
      -- region 11 (law.go:272)
      refine wp_region_lit ?_
      refine wpList_stp (stp_gv hF (wanted_none rfl) rfl rfl (gv_field (r := 1) rfl Tryd.underlying87 rfl rfl Tryd.sz9 (by decide) (hF.t rfl)) fun a hF => ?_)
      refine wpList_stp (stp_gv hF (wanted_none rfl) rfl rfl (gv_load rfl Tryd.underlying9 rfl (hF.t rfl) (cell_ix (j := 1) (hS.cell (k := 0) rfl (rfl)) (by omega))) fun a hF => ?_)
      refine wpList_stp (stp_gv hF (wanted_none rfl) rfl rfl (gv_field (r := 2) rfl Tryd.underlying87 rfl rfl Tryd.sz9 (by decide) (hF.t rfl)) fun a hF => ?_)
      refine wpList_stp (stp_gv hF (wanted_none rfl) rfl rfl (gv_load rfl Tryd.underlying9 rfl (hF.t rfl) (cell_ix (j := 2) (hS.cell (k := 0) rfl (rfl)) (by omega))) fun a hF => ?_)
      refine wpList_stp (stp_gv hF (wanted_none rfl) rfl rfl (gv_field (r := 3) rfl Tryd.underlying87 rfl rfl Tryd.sz4 (by decide) (hF.t rfl)) fun a hF => ?_)
      refine wpList_stp (stp_gv hF (wanted_none rfl) rfl rfl (gv_load rfl Tryd.underlying4 rfl (hF.t rfl) (cell_ix (j := 3) (hS.cell (k := 0) rfl (rfl)) (by omega))) fun a hF => ?_)
      refine wpList_stp (stp_gv hF (wanted_none rfl) rfl rfl (gv_build rfl (EvP.map (EvP.cons (hF.t rfl) (EvP.cons (hF.t rfl) (EvP.cons (hF.t rfl) EvP.nil)))) (build_rec _ _ _ _)) fun a hF => ?_)
      refine wpList_stp (stp_alloc hF (wanted_none rfl) rfl rfl rfl Tryd.zv63 rfl hS fun rr a w hF hS => ?_)
      refine wpList_stp (stp_storeAll hF (wanted_none rfl) rfl rfl (Tryd.sz63.trans (congrArg some (rfl))) (hF.t rfl) (hF.t rfl) ((by intro u hu; simp at hu; rcases hu with rfl | rfl | rfl <;> rfl)) hS (k := 0) rfl (rfl) fun w hS => ?_)
      refine wpList_nil ?_
      refine then_normal (hKq16 _ _ ?_)
      refine wp_seq_k fun Kq17 hKq17 => ?_
      -- region 12 (law.go:273)
      refine wp_region_lit ?_
      refine wpList_stp (stp_gv hF (wanted_none rfl) rfl rfl (gv_move rfl (hF.t rfl)) fun a hF => ?_)
      refine wpList_stp (stp_gv hF (wanted_none rfl) rfl rfl (gv_loadAll rfl Tryd.underlying63 rfl (Tryd.sz63.trans (congrArg some (rfl))) (hF.t rfl) hS (k := 0) rfl) fun a hF => ?_)
      replace hS := hS.move (k := 4) rfl
      replace hS := hS.move (k := 4) rfl
      replace hS := hS.move (k := 4) rfl
      simp only [List.eraseIdx_cons_succ, List.eraseIdx_cons_zero] at hS
      refine wpList_stp (stp_call hF (wanted_none rfl) rfl rfl Tryd.ok30 rfl (Evs.cons (hF.t rfl) (Evs.cons (hF.t rfl) Evs.nil)) (save_ok (al := ca) (cl := cc) (pp := cp) hG (nw_cons rfl (nw_cons rfl (nw_cons rfl (nw_cons rfl nw_nil)))) hS hT.inv.ok hT.inv.k (by omega) (by omega)) fun e w h => ?_)
      obtain ⟨rfl, hS⟩ := h
      refine ⟨_, rfl, fun a hF => ?_⟩
      refine wpList_stp (stp_gv hF (wanted_none rfl) rfl rfl (gv_assign rfl (hF.t rfl)) fun a hF => ?_)
      refine wpList_nil ?_
      refine then_normal (hKq17 _ _ ?_)
      rcases tinv_step (r := ⟨ca, cc, cp⟩) hT with ⟨V2, D2, hs⟩ | hs
      ·
        rw [hs] at hF hS
        simp only at hF hS
        refine wp_seq_k fun Kq18 hKq18 => ?_
        -- region 13 (law.go:273)
        refine wp_region_lit ?_
        refine wpList_stp (stp_gv hF (wanted_none rfl) rfl rfl (gv_move rfl (hF.t rfl)) fun a hF => ?_)
        refine wpList_stp (stp_gv hF (wanted_none rfl) rfl rfl (gv_eqlT rfl (hF.t rfl) (ev_const _ _) (rfl)) fun a hF => ?_)
        refine wpList_nil ?_
        refine then_normal (hKq18 _ _ ?_)
        refine wp_cond_true (hF.t rfl) ?_
        -- region 14 (law.go:274)
        refine wp_region_lit ?_
        refine wpList_stp (stp_gv hF (wanted_none rfl) rfl rfl (gv_move rfl (hF.t rfl)) fun a hF => ?_)
        refine wpList_stp (stp_gv hF (wanted_none rfl) rfl rfl (gv_loadAll rfl Tryd.underlying63 rfl (Tryd.sz63.trans (congrArg some (rfl))) (hF.t rfl) hS (k := 3) rfl) fun a hF => ?_)
        refine wpList_stp (stp_buildK (cells := [sV ca, sV cc, .bool cp]) hF (wanted_none rfl) rfl rfl rfl Tryd.underlying85 Tryd.ty63 (by decide) (by decide) (hF.t rfl) (by kernel_rfl) hS fun zb a w hF hS => ?_)
        refine wpList_stp (stp_appendK (k := 6) (m := 1) (xs := rowR rs) (ys := [sV ca, sV cc, .bool cp]) hF (wanted_none rfl) rfl rfl rfl Tryd.underlying85 Tryd.ty63 rfl (by decide) (hF.t rfl) (hF.t rfl) hS rfl hR.ob hR.x hR.p hR.nc hR.cap rfl (by decide) (fun j u hu => by rw [add_lit, Nat.zero_add]; exact hS.cell (k := 0) rfl hu) (by intro u hu; simp at hu; rcases hu with rfl | rfl | rfl <;> rfl) (by omega) (by omega) fun ab2 cap2 pad2 a w hF hc1 hc2 hc3 hS => ?_)
        simp only [List.set_cons_succ, List.set_cons_zero] at hS
        replace hS := hS.drop rfl
        rw [show rowR rs ++ [sV ca, sV cc, .bool cp] = rowR (rs ++ [⟨ca, cc, cp⟩]) from rowR_snoc rs ⟨ca, cc, cp⟩] at hS
        refine wpList_stp (stp_gv hF (wanted_none rfl) rfl rfl (gv_assign rfl (hF.t rfl)) fun a hF => ?_)
        refine wpList_nil ?_
        refine block_normal ?_
        refine then_normal (hKq14 _ _ ?_)
        -- region 17 (law.go:271)
        refine wp_region_lit ?_
        refine wpList_stp (stp_gv hF (wanted_none rfl) rfl rfl (gv_nadd (n := 1) rfl (hF.t rfl) rfl (by omega)) fun a hF => ?_)
        refine wpList_stp (stp_gv hF (wanted_none rfl) rfl rfl (gv_move rfl (hF.t rfl)) fun a hF => ?_)
        refine wpList_nil ?_
        refine then_normal ?_
        obtain ⟨hT2, hg2⟩ := tinv_save hT (by omega) hs
        replace hS := (hS.move (k := 3) rfl).drop rfl
        replace hS := (hS.move (k := 3) rfl).drop rfl
        exact ⟨nn - 1, by omega, i + 1, n + 1, V2, D2, rs ++ [(⟨ca, cc, cp⟩ : Rc)], some ab2, cap2, pad2, by omega, by omega, by omega, by omega, by rw [List.length_append, hrl]; rfl, hT2, ⟨(fun h => by cases h), by rw [rowR_len, List.length_append, hrl]; rfl, hc3, hc1, hc2⟩, hF.sub ⟨rfl, rfl, rfl, rfl, rfl, rfl, rfl, trivial⟩, hS⟩
      ·
        rw [hs] at hF hS
        simp only at hF hS
        refine wp_seq_k fun Kq19 hKq19 => ?_
        -- region 13 (law.go:273)
        refine wp_region_lit ?_
        refine wpList_stp (stp_gv hF (wanted_none rfl) rfl rfl (gv_move rfl (hF.t rfl)) fun a hF => ?_)
        refine wpList_stp (stp_gv hF (wanted_none rfl) rfl rfl (gv_eqlF rfl (hF.t rfl) (ev_const _ _) (by decide)) fun a hF => ?_)
        refine wpList_nil ?_
        refine then_normal (hKq19 _ _ ?_)
        refine wp_cond_false (hF.t rfl) ?_
        refine wp_seq_k fun Kq20 hKq20 => ?_
        -- region 15 (law.go:275)
        refine wp_region_lit ?_
        refine wpList_stp (stp_gv hF (wanted_none rfl) rfl rfl (gv_move rfl (hF.t rfl)) fun a hF => ?_)
        refine wpList_stp (stp_gv hF (wanted_none rfl) rfl rfl (gv_neqF rfl (hF.t rfl) (ev_const _ _) (fun h => h rfl)) fun a hF => ?_)
        refine wpList_nil ?_
        refine then_normal (hKq20 _ _ ?_)
        refine wp_cond_false (hF.t rfl) ?_
        refine wp_skip ?_
        refine block_normal ?_
        refine then_normal (hKq14 _ _ ?_)
        -- region 17 (law.go:271)
        refine wp_region_lit ?_
        refine wpList_stp (stp_gv hF (wanted_none rfl) rfl rfl (gv_nadd (n := 1) rfl (hF.t rfl) rfl (by omega)) fun a hF => ?_)
        refine wpList_stp (stp_gv hF (wanted_none rfl) rfl rfl (gv_move rfl (hF.t rfl)) fun a hF => ?_)
        refine wpList_nil ?_
        refine then_normal ?_
        replace hS := (hS.move (k := 3) rfl).drop rfl
        replace hS := (hS.move (k := 3) rfl).drop rfl
        exact ⟨nn - 1, by omega, i + 1, n, V, D, rs, ob, cap, pad, by omega, by omega, by omega, by omega, hrl, hT, hR, hF.sub ⟨rfl, rfl, rfl, rfl, rfl, rfl, rfl, trivial⟩, hS⟩
    ·
      refine wp_exit ?_
      refine then_exit ?_
      refine then_exit ?_
      refine block_exit ?_
      refine then_normal (hKq10 _ _ ?_)
      refine wp_seq_k fun Kq21 hKq21 => ?_
      refine wp_seq_k fun Kq22 hKq22 => ?_
      -- region 18 (law.go:279)
      refine wp_region_lit ?_
      refine wpList_stp (stp_gv hF (wanted_none rfl) rfl rfl (gv_move rfl (hF.t rfl)) fun a hF => ?_)
      refine wpList_stp (stp_gv hF (wanted_none rfl) rfl rfl (gv_lenOwn rfl Tryd.underlying85 (hF.t rfl) (fun h => (hR.ob h).1)) fun a hF => ?_)
      refine wpList_stp (stp_gv hF (wanted_none rfl) rfl rfl (gv_lss rfl (hF.t rfl) (ev_const _ _)) fun a hF => ?_)
      refine wpList_nil ?_
      refine then_normal (hKq22 _ _ ?_)
      refine cond_dec (hF.t rfl) (fun h62 => ?_) (fun h62 => ?_)
      ·
        refine wp_seq_k fun Kq23 hKq23 => ?_
        -- region 19 (law.go:280)
        refine wp_region_lit ?_
        refine wpList_stp (stp_gv hF (wanted_none rfl) rfl rfl (gv_assign rfl (ev_const _ _)) fun a hF => ?_)
        refine wpList_nil ?_
        refine then_normal (hKq23 _ _ ?_)
        refine wp_ret ?_
        refine then_ret ?_
        refine ret1 (fn := Tryd.f10) (t := 2) hF rfl rfl ?_
        exact ⟨rfl, hS.toExt (nw_cons rfl (nw_cons rfl (nw_cons rfl (nw_cons rfl (nw_cons rfl nw_nil)))))⟩
      ·
        refine wp_skip ?_
        refine then_normal (hKq21 _ _ ?_)
        refine wp_seq_k fun Kq24 hKq24 => ?_
        obtain ⟨ab, rfl⟩ : ∃ ab, ob = some ab := by
          cases ob with
          | none => have := (hR.ob rfl).1; omega
          | some ab => exact ⟨ab, rfl⟩
        subst hrl
        have hk1 := hT.inv.k
        have hkm := hT.k
        have hk100 : 100 * V.k ≤ 100 := by omega
        obtain ⟨xR, yR, hat⟩ := turns_at hT (by omega)
        obtain ⟨⟨xa, xc, xp⟩, hxr⟩ : ∃ r, rs[rs.length - 2]? = some r := ⟨_, List.getElem?_eq_getElem (by omega)⟩
        obtain ⟨g2, ho2⟩ := turns_open hT (by omega) hxr
        -- region 20 (law.go:282)
        refine wp_region_lit ?_
        refine wpList_stp (stp_gv hF (wanted_none rfl) rfl rfl (gv_move rfl (hF.t rfl)) fun a hF => ?_)
        refine wpList_stp (stp_call hF (wanted_none rfl) rfl rfl Tryd.ok34 rfl (Evs.cons (hF.t rfl) Evs.nil) (image_ok (dskW_of (k := 1) (k' := 2) hS rfl rfl) hT.inv.ok.len (by decide)) fun e w h => ?_)
        obtain ⟨o, op, rfl, oo, oc, hN⟩ := h
        refine ⟨_, rfl, fun a hF => ?_⟩
        replace hS := hS.join hN (nw_cons rfl nw_nil)
        simp only [List.cons_append, List.nil_append] at hS
        clear hN
        refine wpList_stp (stp_call hF (wanted_none rfl) rfl rfl Tryd.ok33 rfl (Evs.cons (hF.t rfl) Evs.nil) (rnewest_ok ((own_rd (w0 := w0) (ob := o) (l := D.l) List.mem_cons_self oo rfl oc) w _ hS (nw_cons rfl (nw_cons rfl (nw_cons rfl (nw_cons rfl (nw_cons rfl (nw_cons rfl nw_nil)))))) (fun e he => he)) (by rw [hT.inv.ok.len]; decide) (by rw [hT.inv.ok.len]; decide)) fun e w h => ?_)
        obtain ⟨rfl, hx⟩ := h
        refine ⟨_, rfl, fun a hF => ?_⟩
        replace hS := hS.ext hx
        clear hx
        rw [hat] at hF
        refine wpList_stp (stp_gv hF (wanted_none rfl) rfl rfl (gv_move rfl (hF.t rfl)) fun a hF => ?_)
        refine wpList_stp (stp_gv hF (wanted_none rfl) rfl rfl (gv_extract rfl (hF.t rfl) rfl) fun a hF => ?_)
        refine wpList_stp (stp_gv hF (wanted_none rfl) rfl rfl (gv_extract rfl (hF.t rfl) rfl) fun a hF => ?_)
        refine wpList_stp (stp_gv hF (wanted_none rfl) rfl rfl (gv_extract rfl (hF.t rfl) rfl) fun a hF => ?_)
        refine wpList_stp (stp_alloc hF (wanted_none rfl) rfl rfl rfl Tryd.zv75 rfl hS fun r14 a w hF hS => ?_)
        refine wpList_stp (stp_gv hF (wanted_none rfl) rfl rfl (gv_assign rfl (hF.t rfl)) fun a hF => ?_)
        refine wpList_stp (stp_storeAll hF (wanted_none rfl) rfl rfl (Tryd.sz75.trans (congrArg some (rfl))) (hF.t rfl) (hF.t rfl) ((by intro u hu; simp at hu; rcases hu with rfl | rfl | rfl <;> rfl)) hS (k := 0) rfl (rfl) fun w hS => ?_)
        refine wpList_stp (stp_gv hF (wanted_none rfl) rfl rfl (gv_assign rfl (hF.t rfl)) fun a hF => ?_)
        refine wpList_nil ?_
        refine then_normal (hKq24 _ _ ?_)
        refine wp_seq_k fun Kq25 hKq25 => ?_
        refine wp_seq_k fun Kq26 hKq26 => ?_
        -- region 21 (law.go:283)
        refine wp_region_lit ?_
        refine wpList_stp (stp_gv hF (wanted_none rfl) rfl rfl (gv_move rfl (ev_const _ _)) fun a hF => ?_)
        refine wpList_nil ?_
        refine then_normal (hKq26 _ _ ?_)
        refine wp_block ?_
        replace hS := hS.move (k := 5) rfl
        replace hS := hS.move (k := 5) rfl
        replace hS := hS.move (k := 5) rfl
        simp only [List.eraseIdx_cons_succ, List.eraseIdx_cons_zero] at hS
        replace hS : St w0 w [⟨true, some d, dskO p 200 200 (zapT D (100 * V.k) 0)⟩, ⟨true, some p, datO (zapT D (100 * V.k) 0) []⟩, ⟨true, some ab, blk 63 (rowR rs ++ pad)⟩] := stTake hS 3 (nw_cons rfl (nw_cons rfl (nw_cons rfl (nw_cons rfl nw_nil))))
        refine wp_loop_n (fun mm a w => ∃ q, q ≤ 100 ∧ mm = 100 - q ∧ Fr 107 a [(3, .pointer (some ⟨d, 0, none⟩)), (8, .slice (some ⟨ab, 0, none⟩) rs.length cap), (13, vI V.k), (70, vI q)] ∧ St w0 w [⟨true, some d, dskO p 200 200 (zapT D (100 * V.k) q)⟩, ⟨true, some p, datO (zapT D (100 * V.k) q) []⟩, ⟨true, some ab, blk 63 (rowR rs ++ pad)⟩]) 100 ⟨0, by omega, by omega, hF.sub ⟨rfl, rfl, rfl, rfl, trivial⟩, hS⟩ ?_
        rintro mm a w ⟨q, hq, hmm, hF, hS⟩
        refine wp_seq_k fun Kq27 hKq27 => ?_
        -- region 22 (law.go:283)
        refine wp_region_lit ?_
        refine wpList_stp (stp_gv hF (wanted_none rfl) rfl rfl (gv_lss rfl (hF.t rfl) (ev_const _ _)) fun a hF => ?_)
        refine wpList_nil ?_
        refine then_normal (hKq27 _ _ ?_)
        refine wp_seq_k fun Kq28 hKq28 => ?_
        refine cond_dec (hF.t rfl) (fun hc71 => ?_) (fun hc71 => ?_)
        ·
          refine wp_skip ?_
          refine then_normal (hKq28 _ _ ?_)
          refine wp_seq_k fun Kq29 hKq29 => ?_
          refine wp_block ?_
          refine wp_seq_k fun Kq30 hKq30 => ?_
          -- region 23 (law.go:283)
          refine wp_region_lit ?_
          refine wpList_stp (stp_gv hF (wanted_none rfl) rfl rfl (gv_move rfl (hF.t rfl)) fun a hF => ?_)
          refine wpList_stp (stp_gv hF (wanted_none rfl) rfl rfl (gv_assign rfl (hF.t rfl)) fun a hF => ?_)
          refine wpList_nil ?_
          refine then_normal (hKq30 _ _ ?_)
          -- region 24 (law.go:284)
          refine wp_region_lit ?_
          refine wpList_stp (stp_gv hF (wanted_none rfl) rfl rfl (gv_move rfl (hF.t rfl)) fun a hF => ?_)
          refine wpList_stp (stp_gv hF (wanted_none rfl) rfl rfl (gv_move rfl (hF.t rfl)) fun a hF => ?_)
          refine wpList_stp (stp_gv hF (wanted_none rfl) rfl rfl (gv_nmul (m := 100) rfl rfl (hF.t rfl) (by omega)) fun a hF => ?_)
          refine wpList_stp (stp_gv hF (wanted_none rfl) rfl rfl (gv_move rfl (hF.t rfl)) fun a hF => ?_)
          refine wpList_stp (stp_gv hF (wanted_none rfl) rfl rfl (gv_nadd rfl (hF.t rfl) (hF.t rfl) (by omega)) fun a hF => ?_)
          refine wpList_stp (stp_gv hF (wanted_none rfl) rfl rfl (gv_build rfl (EvP.map EvP.nil) (build_z64 _)) fun a hF => ?_)
          refine wpList_stp (stp_call hF (wanted_none rfl) rfl rfl Tryd.ok32 rfl (Evs.cons (hF.t rfl) (Evs.cons (hF.t rfl) (Evs.cons (hF.t rfl) Evs.nil))) (dwrite_ok (i := ((100 * V.k + q : Nat) : Int)) (D := zapT D (100 * V.k) q) (xl := zero64) (nw_cons rfl nw_nil) hS (zapT_ok hT.inv.ok hT.dead hT.fuel hk100 q hq).1 rfl) fun e w h => ?_)
          obtain ⟨rfl, hS⟩ := h
          refine ⟨_, rfl, fun a hF => ?_⟩
          refine wpList_nil ?_
          refine block_normal ?_
          refine then_normal (hKq29 _ _ ?_)
          -- region 25 (law.go:283)
          refine wp_region_lit ?_
          refine wpList_stp (stp_gv hF (wanted_none rfl) rfl rfl (gv_nadd (n := 1) rfl (hF.t rfl) rfl (by omega)) fun a hF => ?_)
          refine wpList_stp (stp_gv hF (wanted_none rfl) rfl rfl (gv_move rfl (hF.t rfl)) fun a hF => ?_)
          refine wpList_nil ?_
          refine then_normal ?_
          exact ⟨mm - 1, by omega, q + 1, by omega, by omega, hF.sub ⟨rfl, rfl, rfl, rfl, trivial⟩, hS⟩
        ·
          refine wp_exit ?_
          refine then_exit ?_
          refine then_exit ?_
          refine block_exit ?_
          refine then_normal (hKq25 _ _ ?_)
          refine wp_seq_k fun Kq31 hKq31 => ?_
          obtain rfl : q = 100 := by omega
          have hK2 := (zapT_ok hT.inv.ok hT.dead hT.fuel hk100 100 (Nat.le_refl _)).1
          -- region 26 (law.go:286)
          refine wp_region_lit ?_
          refine wpList_stp (stp_gv hF (wanted_none rfl) rfl rfl (gv_move rfl (hF.t rfl)) fun a hF => ?_)
          refine wpList_stp (stp_call hF (wanted_none rfl) rfl rfl Tryd.ok29 rfl (Evs.cons (hF.t rfl) Evs.nil) (open_ok (hG.ext (hS.toExt (nw_cons rfl (nw_cons rfl (nw_cons rfl nw_nil))))) (dskW_of (k := 0) (k' := 1) hS rfl rfl) hK2) fun e w h => ?_)
          obtain ⟨v2, rfl, hN⟩ := h
          refine ⟨_, rfl, fun a hF => ?_⟩
          rw [ho2] at hF hN
          replace hS := hS.join hN (nw_cons rfl nw_nil)
          simp only [List.cons_append, List.nil_append] at hS
          clear hN
          refine wpList_stp (stp_gv hF (wanted_none rfl) rfl rfl (gv_move rfl (hF.t rfl)) fun a hF => ?_)
          refine wpList_stp (stp_gv hF (wanted_none rfl) rfl rfl (gv_extract rfl (hF.t rfl) rfl) fun a hF => ?_)
          refine wpList_stp (stp_gv hF (wanted_none rfl) rfl rfl (gv_extract rfl (hF.t rfl) rfl) fun a hF => ?_)
          refine wpList_stp (stp_gv hF (wanted_none rfl) rfl rfl (gv_extract rfl (hF.t rfl) rfl) fun a hF => ?_)
          refine wpList_stp (stp_alloc hF (wanted_none rfl) rfl rfl rfl Tryd.zv63 rfl hS fun r18 a w hF hS => ?_)
          refine wpList_stp (stp_gv hF (wanted_none rfl) rfl rfl (gv_assign rfl (hF.t rfl)) fun a hF => ?_)
          refine wpList_stp (stp_storeAll hF (wanted_none rfl) rfl rfl (Tryd.sz63.trans (congrArg some (rfl))) (hF.t rfl) (hF.t rfl) ((by intro u hu; simp at hu; rcases hu with rfl | rfl | rfl <;> rfl)) hS (k := 0) rfl (rfl) fun w hS => ?_)
          replace hS : St w0 w (⟨true, some r18, recO xa xc xp⟩ :: _) := hS
          refine wpList_stp (stp_gv hF (wanted_none rfl) rfl rfl (gv_assign rfl (hF.t rfl)) fun a hF => ?_)
          refine wpList_nil ?_
          refine then_normal (hKq31 _ _ ?_)
          refine wp_seq_k fun Kq32 hKq32 => ?_
          -- region 27 (law.go:287)
          refine Fw.wp_region_draw (by kernel_rfl) fun w hx => ?_
          replace hS := hS.ext hx
          clear hx
          refine run_head0 (n := 21) _ hF (by kernel_rfl) rfl ?_
          refine dw_gv hF rfl (wanted_none rfl) rfl rfl (fun w hx => gv_move rfl (hF.t rfl)) fun a hF => ?_
          refine dw_gv hF rfl (wanted_none rfl) rfl rfl (fun w hx => gv_move rfl (hF.t rfl)) fun a hF => ?_
          refine dw_gv hF rfl (wanted_none rfl) rfl rfl (fun w hx => gv_len rfl Tryd.underlying85 (hF.t rfl)) fun a hF => ?_
          refine dw_gv hF rfl (wanted_none rfl) rfl rfl (fun w hx => gv_nsub (n := 1) rfl (hF.t rfl) rfl (by omega) (by omega)) fun a hF => ?_
          refine dw_gv hF rfl (wanted_none rfl) rfl rfl (fun w hx => gv_nrem (n := 2) rfl (hF.t rfl) rfl (by omega)) fun a hF => ?_
          refine dw_gv hF rfl (wanted_none rfl) rfl rfl (fun w hx => gv_eqlT rfl (hF.t rfl) (hF.t rfl) (by omega)) fun a hF => ?_
          refine dw_gv hF rfl (wanted_none rfl) rfl rfl (fun w hx => gv_move rfl (hF.t rfl)) fun a hF => ?_
          refine dw_gv hF rfl (wanted_of hF rfl rfl (rfl)) rfl rfl (fun w hx => gv_move rfl (hF.t rfl)) fun a hF => ?_
          refine dw_gv hF rfl (wanted_of hF rfl rfl (rfl)) rfl rfl (fun w hx => gv_eqlT rfl (hF.t rfl) (ev_const _ _) (rfl)) fun a hF => ?_
          refine dw_gv hF rfl (wanted_none rfl) rfl rfl (fun w hx => gv_pickT rfl (hF.t rfl) (hF.t rfl)) fun a hF => ?_
          refine dw_gv hF rfl (wanted_none rfl) rfl rfl (fun w hx => gv_move rfl (hF.t rfl)) fun a hF => ?_
          refine dw_gv hF rfl (wanted_of hF rfl rfl (rfl)) rfl rfl (fun w hx => gv_loadAll rfl Tryd.underlying63 rfl (Tryd.sz63.trans (congrArg some (rfl))) (hF.t rfl) (hS.ext hx) (k := 0) rfl) fun a hF => ?_
          refine dw_gv hF rfl (wanted_of hF rfl rfl (rfl)) rfl rfl (fun w hx => gv_move rfl (hF.t rfl)) fun a hF => ?_
          refine dw_gv hF rfl (wanted_of hF rfl rfl (rfl)) rfl rfl (fun w hx => gv_move rfl (hF.t rfl)) fun a hF => ?_
          refine dw_gv hF rfl (wanted_of hF rfl rfl (rfl)) rfl rfl (fun w hx => gv_len rfl Tryd.underlying85 (hF.t rfl)) fun a hF => ?_
          refine dw_gv hF rfl (wanted_of hF rfl rfl (rfl)) rfl rfl (fun w hx => gv_nsub (n := 2) rfl (hF.t rfl) rfl (by omega) (by omega)) fun a hF => ?_
          refine dw_gv hF rfl (wanted_of hF rfl rfl (rfl)) rfl rfl (fun w hx => gv_indexSl rfl Tryd.underlying85 Tryd.sz63 (hF.t rfl) (hF.t rfl) (by omega)) fun a hF => ?_
          refine dw_gv hF rfl (wanted_of hF rfl rfl (rfl)) rfl rfl (fun w hx => gv_loadAgg (vs := [sV xa, sV xc, .bool xp]) rfl Tryd.underlying63 rfl (Tryd.sz63.trans (congrArg some (by rfl))) (hF.t rfl) (fun j u hu => (hS.ext hx).cell (k := 4) rfl (by rw [Nat.zero_add]; exact rowR_at hxr hu))) fun a hF => ?_
          refine dw_gv hF rfl (wanted_of hF rfl rfl (rfl)) rfl rfl (fun w hx => gv_recEql rec3 rfl (hF.t rfl) (hF.t rfl)) fun a hF => ?_
          rw [decide_eq_true (show xa = xa ∧ xc = xc ∧ xp = xp from ⟨rfl, rfl, rfl⟩)] at hF
          refine dw_gv hF rfl (wanted_none rfl) rfl rfl (fun w hx => gv_pickT rfl (hF.t rfl) (hF.t rfl)) fun a hF => ?_
          refine dw_gv hF rfl (wanted_none rfl) rfl rfl (fun w hx => gv_assign rfl (hF.t rfl)) fun a hF => ?_
          refine dw_nil fun a w hA hx => ?_
          replace hF := hA _ hF
          replace hS := hS.ext hx
          clear hA hx
          refine run_done (by decide) ?_
          refine then_normal (hKq32 _ _ ?_)
          refine wp_ret ?_
          refine ret1 (fn := Tryd.f10) (t := 2) hF rfl rfl ?_
          exact ⟨rfl, hS.toExt (nw_cons rfl (nw_cons rfl (nw_cons rfl (nw_cons rfl (nw_cons rfl nw_nil)))))⟩


end Go.Proofs.YtfhalnobaeogkaaDoor

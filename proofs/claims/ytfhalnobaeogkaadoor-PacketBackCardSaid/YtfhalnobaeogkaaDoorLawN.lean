/- What is proved: PacketNone returns true. -/
import Derived.Test.YtfhalnobaeogkaaDoorProg
import Derived.Test.YtfhalnobaeogkaaDoorFwSep
import Derived.KernelRfl
import Derived.Test.YtfhalnobaeogkaaDoorFwApp
import Derived.Test.YtfhalnobaeogkaaDoorFwWord
import Derived.Test.YtfhalnobaeogkaaDoorFwPkt
import Derived.Test.YtfhalnobaeogkaaDoorFwTok
import Derived.Test.YtfhalnobaeogkaaDoorDig
import Derived.Test.YtfhalnobaeogkaaDoorSum
import Derived.Test.YtfhalnobaeogkaaDoorWire
import Derived.Test.YtfhalnobaeogkaaDoorPktW
import Derived.Test.YtfhalnobaeogkaaDoorPktR
set_option linter.unusedVariables false
set_option linter.unusedSimpArgs false
namespace Go.Proofs.YtfhalnobaeogkaaDoor
open Go Go.RowKit Go.Fw

theorem Tryd.zv37 : (Tryd.prog.info? 37).map (·.zero) = some (some (Value.agg (([Value.int .u32 0] ++ [Value.pointer none] ++ [Value.slice none 0 0] ++ [Value.int .i64 0])).toArray)) := by kernel_rfl
theorem Tryd.zv47 : (Tryd.prog.info? 47).map (·.zero) = some (some (Value.agg (([Value.int .u32 0] ++ [Value.pointer none] ++ [Value.slice none 0 0] ++ [Value.int .i64 0]) ++ [Value.slice none 0 0] ++ [Value.slice none 0 0] ++ [Value.bool false]).toArray)) := by kernel_rfl
theorem Tryd.ok14 : CallOk Tryd.prog 14 := ⟨_, Tryd.func14, by kernel_rfl, by kernel_rfl⟩
theorem Tryd.ok15 : CallOk Tryd.prog 15 := ⟨_, Tryd.func15, by kernel_rfl, by kernel_rfl⟩
theorem Tryd.ok16 : CallOk Tryd.prog 16 := ⟨_, Tryd.func16, by kernel_rfl, by kernel_rfl⟩
theorem Tryd.ok17 : CallOk Tryd.prog 17 := ⟨_, Tryd.func17, by kernel_rfl, by kernel_rfl⟩
theorem Tryd.ok18 : CallOk Tryd.prog 18 := ⟨_, Tryd.func18, by kernel_rfl, by kernel_rfl⟩
theorem Tryd.ok21 : CallOk Tryd.prog 21 := ⟨_, Tryd.func21, by kernel_rfl, by kernel_rfl⟩


theorem fit_pkt : pktF 0 [5] [120] 8 = [0, 0, 0, 12, 10, 5] ++ (drawF [120] 0).take 10 := by
  have h : ∀ D : List UInt8, u32B (UInt32.ofNat (1 + ([5] : List UInt8).length + padn ([5] : List UInt8).length 8)) ++ [UInt8.ofNat (padn ([5] : List UInt8).length 8)] ++ [5] ++ D.take (padn ([5] : List UInt8).length 8) = [0, 0, 0, 12, 10, 5] ++ D.take 10 := fun D => rfl
  exact h _
structure Fit7 (P : List UInt8) : Prop where
  pk : Pk0 P 16 10
  len : P.length = 16
  b3 : P.getD 3 0 = 12
  b4 : P.getD 4 0 = 10
  pay : ((P.take 16).take 6).drop 5 = [5]
  drop : P.drop 16 = []
theorem u32A_12 (R : List UInt8) : u32A (0 :: 0 :: 0 :: 12 :: R) 4 = 12 := by
  show ((((0 <<< UInt32.ofNat 8 ||| (0 : UInt8).toUInt32) <<< UInt32.ofNat 8 ||| (0 : UInt8).toUInt32) <<< UInt32.ofNat 8 ||| (0 : UInt8).toUInt32) <<< UInt32.ofNat 8 ||| (12 : UInt8).toUInt32) = 12
  decide
theorem fit7 : Fit7 (pktF 0 [5] [120] 8) := by
  rw [fit_pkt]
  have hl := drawF_len [120] 0
  generalize drawF [120] 0 = D at hl
  have hl' : (D.take 10).length = 10 := by rw [List.length_take]; omega
  generalize D.take 10 = E at hl'
  have h16 : ([0, 0, 0, 12, 10, 5] ++ E : List UInt8).length = 16 := by simp [hl']
  refine ⟨⟨?_, by omega, by omega, by omega, by rw [h16]; exact Nat.le_refl _, rfl, by omega, by omega⟩, h16, rfl, rfl, ?_, List.drop_of_length_le (by omega)⟩
  · have : u32A (([0, 0, 0, 12, 10, 5] ++ E : List UInt8).take 8) 4 = 12 := u32A_12 _
    rw [this]; rfl
  · rw [List.take_of_length_le (by omega : ([0, 0, 0, 12, 10, 5] ++ E : List UInt8).length ≤ 16)]; rfl


set_option maxHeartbeats 1000000 in
theorem fit_ok {w0 : World} (hG : Glob w0) :
    Calls Tryd.prog 14 #[] w0 fun e w' => e = .returned (.bool true) ∧ Ext w0 w' := by
  refine calls_start 55 Tryd.func14 rfl Tryd.ntmps14 rfl fun a hF => ?_
  have hS := St.refl w0
  refine wp_seq_k fun Kq1 hKq1 => ?_
  -- region 0 (law.go:11)
  refine wp_region_lit ?_
  refine wpList_stp (stp_gv hF (wanted_none rfl) rfl rfl (gv_assign rfl (ev_const _ _)) fun a hF => ?_)
  refine wpList_nil ?_
  refine then_normal (hKq1 _ _ ?_)
  refine wp_seq_k fun Kq2 hKq2 => ?_
  -- region 1 (law.go:12)
  refine wp_region_lit ?_
  refine wpList_stp (stp_alloc hF (wanted_none rfl) rfl rfl rfl Tryd.zv37 rfl hS fun wb a w hF hS => ?_)
  refine wpList_nil ?_
  refine then_normal (hKq2 _ _ ?_)
  refine wp_seq_k fun Kq3 hKq3 => ?_
  -- region 2 (law.go:13)
  refine wp_region_lit ?_
  refine wpList_stp (stp_alloc hF (wanted_none rfl) rfl rfl rfl Tryd.zv47 rfl hS fun r a w hF hS => ?_)
  refine wpList_nil ?_
  refine then_normal (hKq3 _ _ ?_)
  refine wp_seq_k fun Kq4 hKq4 => ?_
  -- region 3 (law.go:14)
  refine wp_region_lit ?_
  refine wpList_stp (stp_build1 (v := 5) hF (wanted_none rfl) rfl rfl rfl Tryd.underlying22 Tryd.ty5 rfl hS fun pb a w hF hS => ?_)
  replace hS : St w0 w (⟨true, some wb, wrt 0 (.pointer none) (.slice none 0 0) 0⟩ :: ⟨true, some pb, blkB 5 [5]⟩ :: ⟨true, some r, rdr 0 (.pointer none) (.slice none 0 0) 0 (.slice none 0 0) (.slice none 0 0) false⟩ :: []) := hS.move (k := 2) rfl
  refine wpList_stp (stp_call hF (wanted_none rfl) rfl rfl Tryd.ok15 rfl (Evs.cons (hF.t rfl) (Evs.cons (hF.t rfl) (Evs.cons (ev_const _ _) Evs.nil))) (write0_ok (pl := [5]) (dl := [120]) hG (nw_cons rfl (nw_cons rfl nw_nil)) hS (SRd.arr List.mem_cons_self rfl (by omega)) (by decide) (by decide) (by decide) (by omega)) fun e w h => ?_)
  obtain ⟨v, rfl, dd, o, op, rfl, oo, oc, hS⟩ := h
  refine ⟨_, rfl, fun a hF => ?_⟩
  have hK := fit7
  generalize pktF 0 [5] [120] 8 = PK at hK hS hF oo oc
  obtain ⟨hK1, hK2, hK3, hK4, hK5, hK6⟩ := hK
  obtain ⟨o, rfl⟩ := own_some oo (by omega)
  refine wpList_stp (stp_gv hF (wanted_none rfl) rfl rfl (gv_move rfl (hF.t rfl)) fun a hF => ?_)
  refine wpList_stp (stp_gv hF (wanted_none rfl) rfl rfl (gv_extract rfl (hF.t rfl) rfl) fun a hF => ?_)
  refine wpList_stp (stp_gv hF (wanted_none rfl) rfl rfl (gv_extract rfl (hF.t rfl) rfl) fun a hF => ?_)
  refine wpList_stp (stp_gv hF (wanted_none rfl) rfl rfl (gv_assign rfl (hF.t rfl)) fun a hF => ?_)
  refine wpList_stp (stp_gv hF (wanted_none rfl) rfl rfl (gv_assign rfl (hF.t rfl)) fun a hF => ?_)
  refine wpList_nil ?_
  refine then_normal (hKq4 _ _ ?_)
  refine wp_seq_k fun Kq5 hKq5 => ?_
  -- region 4 (law.go:15)
  refine wp_region_lit ?_
  refine wpList_stp (stp_gv hF (wanted_none rfl) rfl rfl (gv_move rfl (hF.t rfl)) fun a hF => ?_)
  replace hS := hS.move (k := 4) rfl
  refine wpList_stp (stp_call hF (wanted_none rfl) rfl rfl Tryd.ok16 rfl (Evs.cons (hF.t rfl) (Evs.cons (hF.t rfl) Evs.nil)) (feed0_ok (nw_cons rfl (nw_cons rfl (nw_cons rfl (nw_cons rfl nw_nil)))) hS (own_rd (l := PK) (pad := op) List.mem_cons_self oo rfl oc) (by omega)) fun e w h => ?_)
  obtain ⟨rfl, g, gp, go, gc, hS⟩ := h
  refine ⟨_, rfl, fun a hF => ?_⟩
  refine wpList_nil ?_
  refine then_normal (hKq5 _ _ ?_)
  refine wp_seq_k fun Kq6 hKq6 => ?_
  -- region 5 (law.go:16)
  refine wp_region_lit ?_
  replace hS := hS.move (k := 1) rfl
  obtain ⟨Ag, hAg, hg⟩ := own_open (w0 := w0) (T := ⟨true, g, blk 5 (PK.map vB ++ gp)⟩ :: ⟨true, some o, blk 5 (PK.map vB ++ op)⟩ :: ⟨true, some dd, blkB 94 (drawF [120] (UInt32.toUInt64 0))⟩ :: ⟨true, some wb, wrt (0 + 1) (.pointer none) (.slice none 0 0) (0 + 1)⟩ :: ⟨true, some pb, blkB 5 [5]⟩ :: []) List.mem_cons_self go rfl gc
  rw [hAg] at hS
  refine wpList_stp (stp_call hF (wanted_none rfl) rfl rfl Tryd.ok17 rfl (Evs.cons (hF.t rfl) Evs.nil) (next0_ok (bl := PK) (L := 16) (pad := 10) (nw_cons rfl (nw_cons rfl (nw_cons rfl (nw_cons rfl (nw_cons rfl nw_nil))))) hS hg (by omega) hK1 (by omega) (by omega)) fun e w h => ?_)
  obtain ⟨q, qp, g2, gp2, rfl, go2, gc2, qc, hS⟩ := h
  refine ⟨_, rfl, fun a hF => ?_⟩
  rw [hK6] at hS go2 gc2
  obtain ⟨A2, hA2, _⟩ := ownV_pos (ob := g2) (n := ([] : List UInt8).length) (c := ([] : List UInt8).length + gp2.length) (hi := 0) (fun h => by rw [(go2 h).2]; exact ⟨rfl, rfl⟩) (Nat.zero_le _)
  rw [hA2] at hS
  have hq : Rd w (cut3V (some ⟨q, 0, none⟩) 5 6 6) (([5] : List UInt8).map vB) := by
    have hl16 : (PK.take 16).length = 16 := by rw [List.length_take]; omega
    have h0 := (own_rd (w0 := w0) (ob := some q) (l := PK.take 16) (pad := qp) (List.mem_of_getElem? (i := 2) rfl) (fun h => by cases h) hl16 qc) w _ hS (nw_cons rfl (nw_cons rfl (nw_cons rfl (nw_cons rfl (nw_cons rfl (nw_cons rfl (nw_cons rfl (nw_cons rfl nw_nil)))))))) (fun e he => he)
    have := Rd.cut3 (l := 5) (h := 6) (mx := 6) h0 (by omega) (by omega) (by omega) (by omega)
    rw [← List.map_take, ← List.map_drop, hK5] at this
    exact this
  refine wpList_stp (stp_gv hF (wanted_none rfl) rfl rfl (gv_move rfl (hF.t rfl)) fun a hF => ?_)
  refine wpList_stp (stp_gv hF (wanted_none rfl) rfl rfl (gv_extract rfl (hF.t rfl) rfl) fun a hF => ?_)
  refine wpList_stp (stp_gv hF (wanted_none rfl) rfl rfl (gv_extract rfl (hF.t rfl) rfl) fun a hF => ?_)
  refine wpList_stp (stp_gv hF (wanted_none rfl) rfl rfl (gv_assign rfl (hF.t rfl)) fun a hF => ?_)
  refine wpList_stp (stp_gv hF (wanted_none rfl) rfl rfl (gv_assign rfl (hF.t rfl)) fun a hF => ?_)
  refine wpList_nil ?_
  refine then_normal (hKq6 _ _ ?_)
  refine wp_seq_k fun Kq7 hKq7 => ?_
  -- region 6 (law.go:17)
  refine wp_region_lit ?_
  refine wpList_stp (stp_gv hF (wanted_none rfl) rfl rfl (gv_move rfl (hF.t rfl)) fun a hF => ?_)
  refine wpList_stp (stp_gv hF (wanted_none rfl) rfl rfl (gv_eqlT rfl (hF.t rfl) (ev_const _ _) (rfl)) fun a hF => ?_)
  refine wpList_stp (stp_gv hF (wanted_none rfl) rfl rfl (gv_move rfl (hF.t rfl)) fun a hF => ?_)
  refine wpList_stp (stp_gv hF (wanted_of hF rfl rfl (rfl)) rfl rfl (gv_move rfl (hF.t rfl)) fun a hF => ?_)
  refine wpList_stp (stp_gv hF (wanted_of hF rfl rfl (rfl)) rfl rfl (gv_eqlT rfl (hF.t rfl) (ev_const _ _) (rfl)) fun a hF => ?_)
  refine wpList_stp (stp_gv hF (wanted_none rfl) rfl rfl (gv_pickT rfl (hF.t rfl) (hF.t rfl)) fun a hF => ?_)
  refine wpList_stp (stp_gv hF (wanted_none rfl) rfl rfl (gv_move rfl (hF.t rfl)) fun a hF => ?_)
  refine wpList_stp (stp_gv hF (wanted_of hF rfl rfl (rfl)) rfl rfl (gv_move rfl (hF.t rfl)) fun a hF => ?_)
  refine wpList_stp (stp_gv hF (wanted_of hF rfl rfl (rfl)) rfl rfl (gv_len rfl Tryd.underlying22 (hF.t rfl)) fun a hF => ?_)
  refine wpList_stp (stp_gv hF (wanted_of hF rfl rfl (rfl)) rfl rfl (gv_eqlT rfl (hF.t rfl) (ev_const _ _) (by omega)) fun a hF => ?_)
  refine wpList_stp (stp_gv hF (wanted_none rfl) rfl rfl (gv_pickT rfl (hF.t rfl) (hF.t rfl)) fun a hF => ?_)
  refine wpList_stp (stp_gv hF (wanted_none rfl) rfl rfl (gv_move rfl (hF.t rfl)) fun a hF => ?_)
  refine wpList_stp (stp_gv hF (wanted_of hF rfl rfl (rfl)) rfl rfl (gv_move rfl (hF.t rfl)) fun a hF => ?_)
  refine wpList_stp (stp_gv hF (wanted_of hF rfl rfl (rfl)) rfl rfl (gv_indexSl (q := 3) rfl Tryd.underlying22 Tryd.sz5 (hF.t rfl) rfl (by omega)) fun a hF => ?_)
  refine wpList_stp (stp_gv hF (wanted_of hF rfl rfl (rfl)) rfl rfl (gv_load rfl Tryd.underlying5 rfl (hF.t rfl) (cell_ix (j := 3) (hS.cell (k := 4) rfl (at_map (by omega) 0)) (by omega))) fun a hF => ?_)
  refine wpList_stp (stp_gv hF (wanted_of hF rfl rfl (rfl)) rfl rfl (gv_eqlT rfl (hF.t rfl) (ev_const _ _) (by rw [hK3]; rfl)) fun a hF => ?_)
  refine wpList_stp (stp_gv hF (wanted_none rfl) rfl rfl (gv_pickT rfl (hF.t rfl) (hF.t rfl)) fun a hF => ?_)
  refine wpList_stp (stp_gv hF (wanted_none rfl) rfl rfl (gv_move rfl (hF.t rfl)) fun a hF => ?_)
  refine wpList_stp (stp_gv hF (wanted_of hF rfl rfl (rfl)) rfl rfl (gv_move rfl (hF.t rfl)) fun a hF => ?_)
  refine wpList_stp (stp_gv hF (wanted_of hF rfl rfl (rfl)) rfl rfl (gv_indexSl (q := 4) rfl Tryd.underlying22 Tryd.sz5 (hF.t rfl) rfl (by omega)) fun a hF => ?_)
  refine wpList_stp (stp_gv hF (wanted_of hF rfl rfl (rfl)) rfl rfl (gv_load rfl Tryd.underlying5 rfl (hF.t rfl) (cell_ix (j := 4) (hS.cell (k := 4) rfl (at_map (by omega) 0)) (by omega))) fun a hF => ?_)
  refine wpList_stp (stp_gv hF (wanted_of hF rfl rfl (rfl)) rfl rfl (gv_eqlT rfl (hF.t rfl) (ev_const _ _) (by rw [hK4]; rfl)) fun a hF => ?_)
  refine wpList_stp (stp_gv hF (wanted_none rfl) rfl rfl (gv_pickT rfl (hF.t rfl) (hF.t rfl)) fun a hF => ?_)
  refine wpList_stp (stp_gv hF (wanted_none rfl) rfl rfl (gv_move rfl (hF.t rfl)) fun a hF => ?_)
  refine wpList_stp (stp_gv hF (wanted_of hF rfl rfl (rfl)) rfl rfl (gv_move rfl (hF.t rfl)) fun a hF => ?_)
  refine wpList_stp (stp_gv hF (wanted_of hF rfl rfl (rfl)) rfl rfl (gv_convStr rfl Tryd.underlying22 Tryd.underlying5 Tryd.underlying9 (hF.t rfl) hq) fun a hF => ?_)
  refine wpList_stp (stp_gv hF (wanted_of hF rfl rfl (rfl)) rfl rfl (gv_strEqlT rfl (hF.t rfl) (ev_const _ _) rfl) fun a hF => ?_)
  refine wpList_stp (stp_gv hF (wanted_none rfl) rfl rfl (gv_pickT rfl (hF.t rfl) (hF.t rfl)) fun a hF => ?_)
  refine wpList_stp (stp_gv hF (wanted_none rfl) rfl rfl (gv_move rfl (hF.t rfl)) fun a hF => ?_)
  refine wpList_stp (stp_gv hF (wanted_of hF rfl rfl (rfl)) rfl rfl (gv_field (r := 0) rfl Tryd.underlying37 rfl rfl Tryd.sz35 (by decide) (hF.t rfl)) fun a hF => ?_)
  refine wpList_stp (stp_call hF (wanted_of hF rfl rfl (rfl)) rfl rfl Tryd.ok21 rfl (Evs.cons (hF.t rfl) Evs.nil) (num_ok (hS.cell (k := 6) (i := 0) rfl rfl)) fun e w h => ?_)
  obtain ⟨rfl, hx⟩ := h
  refine ⟨_, rfl, fun a hF => ?_⟩
  replace hS := hS.ext hx
  clear hx
  refine wpList_stp (stp_gv hF (wanted_of hF rfl rfl (rfl)) rfl rfl (gv_eqlT rfl (hF.t rfl) (ev_const _ _) (by decide)) fun a hF => ?_)
  refine wpList_stp (stp_gv hF (wanted_none rfl) rfl rfl (gv_pickT rfl (hF.t rfl) (hF.t rfl)) fun a hF => ?_)
  refine wpList_stp (stp_gv hF (wanted_none rfl) rfl rfl (gv_move rfl (hF.t rfl)) fun a hF => ?_)
  refine wpList_stp (stp_call hF (wanted_of hF rfl rfl (rfl)) rfl rfl Tryd.ok18 rfl (Evs.cons (hF.t rfl) Evs.nil) (left0_ok (hS.cell (k := 0) (i := 4) rfl rfl) (hS.cell (k := 0) (i := 5) rfl rfl)) fun e w h => ?_)
  obtain ⟨rfl, hx⟩ := h
  refine ⟨_, rfl, fun a hF => ?_⟩
  replace hS := hS.ext hx
  clear hx
  refine wpList_stp (stp_gv hF (wanted_of hF rfl rfl (rfl)) rfl rfl (gv_not rfl (hF.t rfl)) fun a hF => ?_)
  refine wpList_stp (stp_gv hF (wanted_none rfl) rfl rfl (gv_pickT rfl (hF.t rfl) (hF.t rfl)) fun a hF => ?_)
  refine wpList_stp (stp_gv hF (wanted_none rfl) rfl rfl (gv_assign rfl (hF.t rfl)) fun a hF => ?_)
  refine wpList_nil ?_
  refine then_normal (hKq7 _ _ ?_)
  refine wp_ret ?_
  refine ret1 (fn := Tryd.f14) (t := 0) hF rfl rfl ?_
  exact ⟨rfl, hS.toExt (nw_cons rfl (nw_cons rfl (nw_cons rfl (nw_cons rfl (nw_cons rfl (nw_cons rfl (nw_cons rfl (nw_cons rfl nw_nil))))))))⟩

theorem none_true {v0 v1 : Value} {w0 : World} (hG : Glob w0) :
    Calls Tryd.prog 3 #[v0, v1] w0 fun e w' => e = .returned (.bool true) ∧ Ext w0 w' := by
  refine calls_start 47 Tryd.func3 rfl Tryd.ntmps3 rfl fun a hF => ?_
  have hS := St.refl w0
  refine wp_seq_k fun Kq1 hKq1 => ?_
  -- region 0 (law.go:187)
  refine wp_region_lit ?_
  refine wpList_stp (stp_gv hF (wanted_none rfl) rfl rfl (gv_assign rfl (ev_const _ _)) fun a hF => ?_)
  refine wpList_nil ?_
  refine then_normal (hKq1 _ _ ?_)
  refine wp_seq_k fun Kq2 hKq2 => ?_
  refine wp_seq_k fun Kq3 hKq3 => ?_
  -- region 1 (law.go:188)
  refine wp_region_lit ?_
  refine wpList_stp (stp_call hF (wanted_none rfl) rfl rfl Tryd.ok14 rfl Evs.nil (fit_ok hG) fun e w h => ?_)
  obtain ⟨rfl, hx⟩ := h
  refine ⟨_, rfl, fun a hF => ?_⟩
  replace hS := hS.ext hx
  clear hx
  refine wpList_stp (stp_gv hF (wanted_none rfl) rfl rfl (gv_not rfl (hF.t rfl)) fun a hF => ?_)
  refine wpList_nil ?_
  refine then_normal (hKq3 _ _ ?_)
  refine wp_cond_false (hF.t rfl) ?_
  refine wp_skip ?_
  refine then_normal (hKq2 _ _ ?_)
  refine wp_seq_k fun Kq4 hKq4 => ?_
  -- region 3 (law.go:191)
  refine wp_region_lit ?_
  refine wpList_stp (stp_gv hF (wanted_none rfl) rfl rfl (gv_assign rfl (ev_const _ _)) fun a hF => ?_)
  refine wpList_nil ?_
  refine then_normal (hKq4 _ _ ?_)
  refine wp_seq_k fun Kq5 hKq5 => ?_
  -- region 4 (law.go:192)
  refine wp_region_lit ?_
  refine wpList_stp (stp_gv hF (wanted_none rfl) rfl rfl (gv_assign rfl (ev_const _ _)) fun a hF => ?_)
  refine wpList_nil ?_
  refine then_normal (hKq5 _ _ ?_)
  refine wp_seq_k fun Kq6 hKq6 => ?_
  -- region 5 (law.go:193)
  refine wp_region_lit ?_
  refine wpList_stp (stp_gv hF (wanted_none rfl) rfl rfl (gv_move rfl (hF.t rfl)) fun a hF => ?_)
  refine wpList_stp (stp_gv hF (wanted_none rfl) rfl rfl (gv_move rfl (hF.t rfl)) fun a hF => ?_)
  refine wpList_stp (stp_gv hF (wanted_none rfl) rfl rfl (gv_move rfl (hF.t rfl)) fun a hF => ?_)
  refine wpList_stp (stp_call hF (wanted_none rfl) rfl rfl Tryd.ok15 rfl (Evs.cons (hF.t rfl) (Evs.cons (hF.t rfl) (Evs.cons (hF.t rfl) Evs.nil))) (write_nil) fun e w h => ?_)
  obtain ⟨rfl, hx⟩ := h
  refine ⟨_, rfl, fun a hF => ?_⟩
  replace hS := hS.ext hx
  clear hx
  refine wpList_stp (stp_gv hF (wanted_none rfl) rfl rfl (gv_move rfl (hF.t rfl)) fun a hF => ?_)
  refine wpList_stp (stp_gv hF (wanted_none rfl) rfl rfl (gv_extract rfl (hF.t rfl) rfl) fun a hF => ?_)
  refine wpList_stp (stp_gv hF (wanted_none rfl) rfl rfl (gv_extract rfl (hF.t rfl) rfl) fun a hF => ?_)
  refine wpList_stp (stp_gv hF (wanted_none rfl) rfl rfl (gv_assign rfl (hF.t rfl)) fun a hF => ?_)
  refine wpList_stp (stp_gv hF (wanted_none rfl) rfl rfl (gv_assign rfl (hF.t rfl)) fun a hF => ?_)
  refine wpList_nil ?_
  refine then_normal (hKq6 _ _ ?_)
  refine wp_seq_k fun Kq7 hKq7 => ?_
  -- region 6 (law.go:194)
  refine wp_region_lit ?_
  refine wpList_stp (stp_gv hF (wanted_none rfl) rfl rfl (gv_move rfl (hF.t rfl)) fun a hF => ?_)
  refine wpList_stp (stp_gv hF (wanted_none rfl) rfl rfl (gv_move rfl (hF.t rfl)) fun a hF => ?_)
  refine wpList_stp (stp_call hF (wanted_none rfl) rfl rfl Tryd.ok16 rfl (Evs.cons (hF.t rfl) (Evs.cons (hF.t rfl) Evs.nil)) (feed_nil) fun e w h => ?_)
  obtain ⟨rfl, hx⟩ := h
  refine ⟨_, rfl, fun a hF => ?_⟩
  replace hS := hS.ext hx
  clear hx
  refine wpList_nil ?_
  refine then_normal (hKq7 _ _ ?_)
  refine wp_seq_k fun Kq8 hKq8 => ?_
  -- region 7 (law.go:195)
  refine wp_region_lit ?_
  refine wpList_stp (stp_gv hF (wanted_none rfl) rfl rfl (gv_move rfl (hF.t rfl)) fun a hF => ?_)
  refine wpList_stp (stp_call hF (wanted_none rfl) rfl rfl Tryd.ok17 rfl (Evs.cons (hF.t rfl) Evs.nil) (next_nil) fun e w h => ?_)
  obtain ⟨rfl, hx⟩ := h
  refine ⟨_, rfl, fun a hF => ?_⟩
  replace hS := hS.ext hx
  clear hx
  refine wpList_stp (stp_gv hF (wanted_none rfl) rfl rfl (gv_move rfl (hF.t rfl)) fun a hF => ?_)
  refine wpList_stp (stp_gv hF (wanted_none rfl) rfl rfl (gv_extract rfl (hF.t rfl) rfl) fun a hF => ?_)
  refine wpList_stp (stp_gv hF (wanted_none rfl) rfl rfl (gv_extract rfl (hF.t rfl) rfl) fun a hF => ?_)
  refine wpList_stp (stp_gv hF (wanted_none rfl) rfl rfl (gv_assign rfl (hF.t rfl)) fun a hF => ?_)
  refine wpList_stp (stp_gv hF (wanted_none rfl) rfl rfl (gv_assign rfl (hF.t rfl)) fun a hF => ?_)
  refine wpList_nil ?_
  refine then_normal (hKq8 _ _ ?_)
  refine wp_seq_k fun Kq9 hKq9 => ?_
  -- region 8 (law.go:196)
  refine wp_region_lit ?_
  refine wpList_stp (stp_gv hF (wanted_none rfl) rfl rfl (gv_move rfl (hF.t rfl)) fun a hF => ?_)
  refine wpList_stp (stp_gv hF (wanted_none rfl) rfl rfl (gv_len rfl Tryd.underlying22 (hF.t rfl)) fun a hF => ?_)
  refine wpList_stp (stp_gv hF (wanted_none rfl) rfl rfl (gv_move rfl (hF.t rfl)) fun a hF => ?_)
  refine wpList_stp (stp_gv hF (wanted_none rfl) rfl rfl (gv_len rfl Tryd.underlying22 (hF.t rfl)) fun a hF => ?_)
  refine wpList_stp (stp_gv hF (wanted_none rfl) rfl rfl (gv_nadd (m := 0) (n := 0) rfl (hF.t rfl) (hF.t rfl) (by omega)) fun a hF => ?_)
  refine wpList_stp (stp_gv hF (wanted_none rfl) rfl rfl (gv_eqlT rfl (hF.t rfl) (ev_const _ _) (rfl)) fun a hF => ?_)
  refine wpList_stp (stp_gv hF (wanted_none rfl) rfl rfl (gv_move rfl (hF.t rfl)) fun a hF => ?_)
  refine wpList_stp (stp_gv hF (wanted_of hF rfl rfl (rfl)) rfl rfl (gv_move rfl (hF.t rfl)) fun a hF => ?_)
  refine wpList_stp (stp_gv hF (wanted_of hF rfl rfl (rfl)) rfl rfl (gv_eqlT rfl (hF.t rfl) (ev_const _ _) (rfl)) fun a hF => ?_)
  refine wpList_stp (stp_gv hF (wanted_none rfl) rfl rfl (gv_pickT rfl (hF.t rfl) (hF.t rfl)) fun a hF => ?_)
  refine wpList_stp (stp_gv hF (wanted_none rfl) rfl rfl (gv_move rfl (hF.t rfl)) fun a hF => ?_)
  refine wpList_stp (stp_gv hF (wanted_of hF rfl rfl (rfl)) rfl rfl (gv_move rfl (hF.t rfl)) fun a hF => ?_)
  refine wpList_stp (stp_gv hF (wanted_of hF rfl rfl (rfl)) rfl rfl (gv_eqlT rfl (hF.t rfl) (ev_const _ _) (rfl)) fun a hF => ?_)
  refine wpList_stp (stp_gv hF (wanted_none rfl) rfl rfl (gv_pickT rfl (hF.t rfl) (hF.t rfl)) fun a hF => ?_)
  refine wpList_stp (stp_gv hF (wanted_none rfl) rfl rfl (gv_move rfl (hF.t rfl)) fun a hF => ?_)
  refine wpList_stp (stp_gv hF (wanted_of hF rfl rfl (rfl)) rfl rfl (gv_move rfl (hF.t rfl)) fun a hF => ?_)
  refine wpList_stp (stp_call hF (wanted_of hF rfl rfl (rfl)) rfl rfl Tryd.ok18 rfl (Evs.cons (hF.t rfl) Evs.nil) (left_nil) fun e w h => ?_)
  obtain ⟨rfl, hx⟩ := h
  refine ⟨_, rfl, fun a hF => ?_⟩
  replace hS := hS.ext hx
  clear hx
  refine wpList_stp (stp_gv hF (wanted_of hF rfl rfl (rfl)) rfl rfl (gv_not rfl (hF.t rfl)) fun a hF => ?_)
  refine wpList_stp (stp_gv hF (wanted_none rfl) rfl rfl (gv_pickT rfl (hF.t rfl) (hF.t rfl)) fun a hF => ?_)
  refine wpList_stp (stp_gv hF (wanted_none rfl) rfl rfl (gv_assign rfl (hF.t rfl)) fun a hF => ?_)
  refine wpList_nil ?_
  refine then_normal (hKq9 _ _ ?_)
  refine wp_ret ?_
  refine ret1 (fn := Tryd.f3) (t := 4) hF rfl rfl ?_
  exact ⟨rfl, hS.toExt nw_nil⟩


end Go.Proofs.YtfhalnobaeogkaaDoor

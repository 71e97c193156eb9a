/- What is proved: the contract of a packet.Reader with keys, where a packet is all there, and right. -/
import Derived.Test.YtfhalnobaeogkaaDoorProg
import Derived.Test.YtfhalnobaeogkaaDoorFwSep
import Derived.KernelRfl
import Derived.Test.YtfhalnobaeogkaaDoorFwApp
import Derived.Test.YtfhalnobaeogkaaDoorFwWord
import Derived.Test.YtfhalnobaeogkaaDoorFwPkt
import Derived.Test.YtfhalnobaeogkaaDoorFwTok
import Derived.Test.YtfhalnobaeogkaaDoorFwFour
import Derived.Test.YtfhalnobaeogkaaDoorDig
import Derived.Test.YtfhalnobaeogkaaDoorSum
import Derived.Test.YtfhalnobaeogkaaDoorWire
import Derived.Test.YtfhalnobaeogkaaDoorPktW
import Derived.Test.YtfhalnobaeogkaaDoorPktR
import Derived.Test.YtfhalnobaeogkaaDoorLeaf
import Derived.Test.YtfhalnobaeogkaaDoorCip
import Derived.Test.YtfhalnobaeogkaaDoorMac
import Derived.Test.YtfhalnobaeogkaaDoorKey
import Derived.Test.YtfhalnobaeogkaaDoorPktK
import Derived.Test.YtfhalnobaeogkaaDoorLawN
import Derived.Test.YtfhalnobaeogkaaDoorCipL
set_option linter.unusedVariables false
set_option linter.unusedSimpArgs false
namespace Go.Proofs.YtfhalnobaeogkaaDoor
open Go Go.RowKit Go.Fw

theorem Tryd.ok51 : CallOk Tryd.prog 51 := ⟨_, Tryd.func51, by kernel_rfl, by kernel_rfl⟩


/-- What a reader under keys makes of the bytes that wait, where a packet is all there, and right. -/
structure Pk1 (K ml C L0 : List UInt8) (seq : UInt32) (bl P : List UInt8) (L pad : Nat) : Prop where
  dec : outT K (C, L0) (bl.take L) L = P
  n : (u32A (P.take 16) 4).toNat + 4 = L
  l16 : 16 ≤ L
  hi : L ≤ 2352
  mul : L % 16 = 0
  len : L + 32 ≤ bl.length
  code : (bl.drop L).take 32 = codeF seq ml P
  pd : (P.getD 4 0).toNat = pad
  p4 : 4 ≤ pad
  p5 : pad + 6 ≤ L
theorem Pk1.plen {K ml C L0 : List UInt8} {seq : UInt32} {bl P : List UInt8} {L pad : Nat} (h : Pk1 K ml C L0 seq bl P L pad) : P.length = L := by
  have := h.len
  rw [← h.dec, outT_len, List.length_take]; omega
theorem Pk1.head {K ml C L0 : List UInt8} {seq : UInt32} {bl P : List UInt8} {L pad : Nat} (h : Pk1 K ml C L0 seq bl P L pad) : outT K (C, L0) (bl.take 16) 16 = P.take 16 := by
  have h1 := h.len
  have h2 := h.l16
  have hl : (bl.take L).length = L := by rw [List.length_take]; omega
  have := turn_take K (C, L0) (bl := bl.take L) (k := 16) (by omega)
  rw [hl, h.dec, List.take_take, Nat.min_eq_left h2] at this
  exact this
theorem Pk1.tail {K ml C L0 : List UInt8} {seq : UInt32} {bl P : List UInt8} {L pad : Nat} (h : Pk1 K ml C L0 seq bl P L pad) : outT K (kst K (C, L0) 16) ((bl.drop 16).take (L - 16)) (L - 16) = P.drop 16 := by
  have h1 := h.len
  have h2 := h.l16
  have hl : (bl.take L).length = L := by rw [List.length_take]; omega
  have := turn_drop K (C, L0) (bl := bl.take L) (k := 16) (by omega)
  rw [hl, h.dec, List.drop_take] at this
  exact this


set_option maxHeartbeats 2000000 in
theorem next1_ok {w00 w : World} {T0 : List Ent} {r n c L pad s : Nat} {A : Option Addr} {seq : UInt32} {mac lv : Value} {bl P K C L0 ml B : List UInt8} {okb : Option Nat} (hG : Glob w00) (hT0 : ∀ e ∈ T0, e.nw = true) (hS : St w00 w (⟨true, some r, rdr seq (.pointer (some ⟨s, 0, none⟩)) mac n (.slice A bl.length c) (.slice none 0 0) false⟩ :: ⟨true, some s, strm K C lv⟩ :: ⟨true, okb, blkB 129 B⟩ :: T0)) (hL : SRd w00 [⟨true, okb, blkB 129 B⟩] lv (L0.map vB)) (hK : K.length = 176) (hC : C.length = 16) (hb : SRd w00 T0 (.slice A bl.length c) (bl.map vB)) (hc : bl.length ≤ c) (hM : SRd w00 T0 mac (ml.map vB)) (hml : ml.length = 32) (hp0 : Pk1 K ml C L0 seq bl P L pad) (hn : n ≤ 4611686018427387904) (hbl : bl.length ≤ 1099511627776) :
    Calls Tryd.prog 17 #[.pointer (some ⟨r, 0, none⟩)] w fun e w' => ∃ o op g gp lv2 okb2 B2, e = .returned (.tuple #[cut3V (some ⟨o, 0, none⟩) 5 (L - pad) (L - pad), .int .i64 0]) ∧ (g = none → bl.drop (L + 32) = [] ∧ gp = []) ∧ (bl.drop (L + 32)).length + gp.length ≤ 9223372036854775807 ∧ L + op.length ≤ 9223372036854775807 ∧ SRd w00 [⟨true, okb2, blkB 129 B2⟩] lv2 ((kst K (C, L0) L).2.map vB) ∧
      St w00 w' (⟨true, some r, rdr (seq + 1) (.pointer (some ⟨s, 0, none⟩)) mac (n + 1) (ownV g (bl.drop (L + 32)).length ((bl.drop (L + 32)).length + gp.length)) (.slice none 0 0) false⟩ :: ⟨true, some s, strm K (kst K (C, L0) L).1 lv2⟩ :: ⟨true, okb2, blkB 129 B2⟩ :: ⟨true, g, blk 5 ((bl.drop (L + 32)).map vB ++ gp)⟩ :: ⟨true, some o, blk 5 (P.map vB ++ op)⟩ :: T0) := by
  have hPl := hp0.plen
  have e16 := hp0.head
  have eT0 := hp0.tail
  obtain ⟨q0, q1, q2, q3, q4, q5, qc, q6, q7, q8⟩ := hp0
  have hR0 := hb w _ hS (nw_cons rfl (nw_cons rfl (nw_cons rfl hT0))) (fun e he => List.mem_cons_of_mem _ (List.mem_cons_of_mem _ (List.mem_cons_of_mem _ (he))))
  obtain ⟨A0, c0, hv0, _, _, hc0⟩ := hR0.isB
  injection hv0 with hA0 _ _
  subst hA0
  obtain ⟨b0, o0, rfl, _⟩ := hc0 (by omega)
  clear hc0 hR0
  have hl16 : (bl.take 16).length = 16 := by rw [List.length_take]; omega
  have hP16 : (P.take 16).length = 16 := by rw [List.length_take]; omega
  have hPd : (P.drop 16).length = L - 16 := by rw [List.length_drop]; omega
  have hlT : ((bl.drop 16).take (L - 16)).length = L - 16 := by rw [List.length_take, List.length_drop]; omega
  have hb16 : SRd w00 T0 (.slice (some ⟨b0, o0, none⟩) 16 16) ((bl.take 16).map vB) := by rw [List.map_take]; exact hb.cutHM (by omega) (by omega) (by omega)
  have ht := hb.cutLo (lo := 16) (by omega)
  rw [← List.map_drop] at ht
  have hbT : SRd w00 T0 (.slice (if c = 16 then some ⟨b0, o0, none⟩ else (some (⟨b0, o0, none⟩ : Addr)).map (·.add 16)) (L - 16) (c - 16)) (((bl.drop 16).take (L - 16)).map vB) := by rw [List.map_take]; exact ht.cutHi (hi := L - 16) (by omega)
  have hcode : SRd w00 T0 (cut3V (if c = 16 then some ⟨b0, o0, none⟩ else (some (⟨b0, o0, none⟩ : Addr)).map (·.add 16)) (L - 16) (L - 16 + 32) (c - 16)) ((codeF seq ml P).map vB) := by
    have := SRd.cut3 (l := L - 16) (h := L - 16 + 32) (mx := c - 16) ht (by omega) (by omega) (by omega) (by omega)
    rw [← List.map_take, ← List.map_drop, List.drop_take, List.drop_drop, show L - 16 + 32 - (L - 16) = 32 by omega, show 16 + (L - 16) = L by omega, qc] at this
    exact this
  obtain ⟨C1, L1, hk16⟩ : ∃ C1 L1, kst K (C, L0) 16 = (C1, L1) := ⟨_, _, rfl⟩
  obtain ⟨C2, L2, hkL0⟩ : ∃ C2 L2, kst K (C, L0) L = (C2, L2) := ⟨_, _, rfl⟩
  have hC1 : C1.length = 16 := by have := kst_len (K := K) (s := (C, L0)) hC 16; rw [hk16] at this; exact this
  have eT : outT K (C1, L1) ((bl.drop 16).take (L - 16)) (L - 16) = P.drop 16 := by rw [← hk16]; exact eT0
  have hkL : kst K (C1, L1) (L - 16) = (C2, L2) := by rw [← hk16, kst_add, show 16 + (L - 16) = L by omega, hkL0]
  rw [hkL0]
  refine calls_start 225 Tryd.func17 rfl Tryd.ntmps17 rfl fun a hF => ?_
  refine wp_seq_k fun Kq1 hKq1 => ?_
  -- region 0 (packet.go:100)
  refine wp_region_lit ?_
  refine wpList_stp (stp_gv hF (wanted_none rfl) rfl rfl (gv_assign rfl (ev_const _ _)) fun a hF => ?_)
  refine wpList_stp (stp_gv hF (wanted_none rfl) rfl rfl (gv_assign rfl (ev_const _ _)) fun a hF => ?_)
  refine wpList_nil ?_
  refine then_normal (hKq1 _ _ ?_)
  refine wp_seq_k fun Kq2 hKq2 => ?_
  refine wp_seq_k fun Kq3 hKq3 => ?_
  -- region 1 (packet.go:101)
  refine wp_region_lit ?_
  refine wpList_stp (stp_gv hF (wanted_none rfl) rfl rfl (gv_move rfl (hF.t rfl)) fun a hF => ?_)
  refine wpList_stp (stp_gv hF (wanted_none rfl) rfl rfl (gv_eqlNil rfl Tryd.underlying25 (hF.t rfl) (ev_const _ _)) fun a hF => ?_)
  refine wpList_stp (stp_gv hF (wanted_none rfl) rfl rfl (gv_move rfl (hF.t rfl)) fun a hF => ?_)
  refine wpList_stp (stp_gv hF (wanted_of hF rfl rfl (rfl)) rfl rfl (gv_move rfl (hF.t rfl)) fun a hF => ?_)
  refine wpList_stp (stp_gv hF (wanted_of hF rfl rfl (rfl)) rfl rfl (gv_nilCheck rfl (hF.t rfl)) fun a hF => ?_)
  refine wpList_stp (stp_gv hF (wanted_of hF rfl rfl (rfl)) rfl rfl (gv_field (r := 6) rfl Tryd.underlying47 rfl rfl Tryd.sz4 (by decide) (hF.t rfl)) fun a hF => ?_)
  refine wpList_stp (stp_gv hF (wanted_of hF rfl rfl (rfl)) rfl rfl (gv_load rfl Tryd.underlying4 rfl (hF.t rfl) (cell_ix (j := 6) (hS.cell (k := 0) rfl (rfl)) (by omega))) fun a hF => ?_)
  refine wpList_stp (stp_gv hF (wanted_none rfl) rfl rfl (gv_pickF rfl (hF.t rfl) (hF.t rfl)) fun a hF => ?_)
  refine wpList_nil ?_
  refine then_normal (hKq3 _ _ ?_)
  refine wp_cond_false (hF.t rfl) ?_
  refine wp_skip ?_
  refine then_normal (hKq2 _ _ ?_)
  refine wp_seq_k fun Kq4 hKq4 => ?_
  -- region 3 (packet.go:104)
  refine wp_region_lit ?_
  refine wpList_stp (stp_gv hF (wanted_none rfl) rfl rfl (gv_move rfl (hF.t rfl)) fun a hF => ?_)
  refine wpList_stp (stp_gv hF (wanted_none rfl) rfl rfl (gv_nilCheck rfl (hF.t rfl)) fun a hF => ?_)
  refine wpList_stp (stp_gv hF (wanted_none rfl) rfl rfl (gv_field (r := 0) rfl Tryd.underlying47 rfl rfl Tryd.sz35 (by decide) (hF.t rfl)) fun a hF => ?_)
  refine wpList_stp (stp_call hF (wanted_none rfl) rfl rfl Tryd.ok43 rfl (Evs.cons (hF.t rfl) Evs.nil) (blk1_ok (hS.cell (k := 0) (i := 1) (v := .pointer (some ⟨s, 0, none⟩)) rfl rfl)) fun e w h => ?_)
  obtain ⟨rfl, hx⟩ := h
  refine ⟨_, rfl, fun a hF => ?_⟩
  replace hS := hS.ext hx
  clear hx
  refine wpList_stp (stp_gv hF (wanted_none rfl) rfl rfl (gv_assign rfl (hF.t rfl)) fun a hF => ?_)
  refine wpList_nil ?_
  refine then_normal (hKq4 _ _ ?_)
  refine wp_seq_k fun Kq5 hKq5 => ?_
  refine wp_seq_k fun Kq6 hKq6 => ?_
  -- region 4 (packet.go:105)
  refine wp_region_lit ?_
  refine wpList_stp (stp_gv hF (wanted_none rfl) rfl rfl (gv_move rfl (hF.t rfl)) fun a hF => ?_)
  refine wpList_stp (stp_gv hF (wanted_none rfl) rfl rfl (gv_nilCheck rfl (hF.t rfl)) fun a hF => ?_)
  refine wpList_stp (stp_gv hF (wanted_none rfl) rfl rfl (gv_field (r := 5) rfl Tryd.underlying47 rfl rfl Tryd.sz22 (by decide) (hF.t rfl)) fun a hF => ?_)
  refine wpList_stp (stp_gv hF (wanted_none rfl) rfl rfl (gv_load rfl Tryd.underlying22 rfl (hF.t rfl) (cell_ix (j := 5) (hS.cell (k := 0) rfl (rfl)) (by omega))) fun a hF => ?_)
  refine wpList_stp (stp_gv hF (wanted_none rfl) rfl rfl (gv_eqlNilS rfl Tryd.underlying22 (hF.t rfl) (ev_const _ _)) fun a hF => ?_)
  refine wpList_nil ?_
  refine then_normal (hKq6 _ _ ?_)
  refine wp_cond_true (hF.t rfl) ?_
  refine wp_seq_k fun Kq7 hKq7 => ?_
  refine wp_seq_k fun Kq8 hKq8 => ?_
  -- region 5 (packet.go:106)
  refine wp_region_lit ?_
  refine wpList_stp (stp_gv hF (wanted_none rfl) rfl rfl (gv_move rfl (hF.t rfl)) fun a hF => ?_)
  refine wpList_stp (stp_gv hF (wanted_none rfl) rfl rfl (gv_nilCheck rfl (hF.t rfl)) fun a hF => ?_)
  refine wpList_stp (stp_gv hF (wanted_none rfl) rfl rfl (gv_field (r := 4) rfl Tryd.underlying47 rfl rfl Tryd.sz22 (by decide) (hF.t rfl)) fun a hF => ?_)
  refine wpList_stp (stp_gv hF (wanted_none rfl) rfl rfl (gv_load rfl Tryd.underlying22 rfl (hF.t rfl) (cell_ix (j := 4) (hS.cell (k := 0) rfl (rfl)) (by omega))) fun a hF => ?_)
  refine wpList_stp (stp_gv hF (wanted_none rfl) rfl rfl (gv_len rfl Tryd.underlying22 (hF.t rfl)) fun a hF => ?_)
  refine wpList_stp (stp_gv hF (wanted_none rfl) rfl rfl (gv_move rfl (hF.t rfl)) fun a hF => ?_)
  refine wpList_stp (stp_gv hF (wanted_none rfl) rfl rfl (gv_lssF rfl (hF.t rfl) (hF.t rfl) (by omega)) fun a hF => ?_)
  refine wpList_nil ?_
  refine then_normal (hKq8 _ _ ?_)
  refine wp_cond_false (hF.t rfl) ?_
  refine wp_skip ?_
  refine then_normal (hKq7 _ _ ?_)
  refine wp_seq_k fun Kq9 hKq9 => ?_
  -- region 7 (packet.go:109)
  refine wp_region_lit ?_
  refine wpList_stp (stp_gv hF (wanted_none rfl) rfl rfl (gv_move rfl (hF.t rfl)) fun a hF => ?_)
  refine wpList_stp (stp_gv hF (wanted_none rfl) rfl rfl (gv_move rfl (hF.t rfl)) fun a hF => ?_)
  refine wpList_stp (stp_gv hF (wanted_none rfl) rfl rfl (gv_nilCheck rfl (hF.t rfl)) fun a hF => ?_)
  refine wpList_stp (stp_gv hF (wanted_none rfl) rfl rfl (gv_field (r := 4) rfl Tryd.underlying47 rfl rfl Tryd.sz22 (by decide) (hF.t rfl)) fun a hF => ?_)
  refine wpList_stp (stp_gv hF (wanted_none rfl) rfl rfl (gv_load rfl Tryd.underlying22 rfl (hF.t rfl) (cell_ix (j := 4) (hS.cell (k := 0) rfl (rfl)) (by omega))) fun a hF => ?_)
  refine wpList_stp (stp_gv hF (wanted_none rfl) rfl rfl (gv_move rfl (hF.t rfl)) fun a hF => ?_)
  refine wpList_stp (stp_gv hF (wanted_none rfl) rfl rfl (gv_move rfl (hF.t rfl)) fun a hF => ?_)
  refine wpList_stp (stp_gv hF (wanted_none rfl) rfl rfl (gv_sliceHM rfl Tryd.underlying22 Tryd.sz5 (hF.t rfl) (hF.t rfl) (hF.t rfl) (by omega) (by omega)) fun a hF => ?_)
  refine wpList_stp (stp_gv hF (wanted_none rfl) rfl rfl (gv_nilCheck rfl (hF.t rfl)) fun a hF => ?_)
  refine wpList_stp (stp_gv hF (wanted_none rfl) rfl rfl (gv_field (r := 5) rfl Tryd.underlying47 rfl rfl Tryd.sz22 (by decide) (hF.t rfl)) fun a hF => ?_)
  refine wpList_stp (stp_storeAt (5) hF (wanted_none rfl) rfl rfl Tryd.sz22 (hF.t rfl) (by omega) (hF.t rfl) rfl hS (k := 0) rfl (by simp) fun w hS => ?_)
  refine wpList_nil ?_
  refine then_normal (hKq9 _ _ ?_)
  refine wp_seq_k fun Kq10 hKq10 => ?_
  refine wp_seq_k fun Kq11 hKq11 => ?_
  -- region 8 (packet.go:110)
  refine wp_region_lit ?_
  refine wpList_stp (stp_gv hF (wanted_none rfl) rfl rfl (gv_move rfl (hF.t rfl)) fun a hF => ?_)
  refine wpList_stp (stp_gv hF (wanted_none rfl) rfl rfl (gv_nilCheck rfl (hF.t rfl)) fun a hF => ?_)
  refine wpList_stp (stp_gv hF (wanted_none rfl) rfl rfl (gv_field (r := 0) rfl Tryd.underlying47 rfl rfl Tryd.sz35 (by decide) (hF.t rfl)) fun a hF => ?_)
  refine wpList_stp (stp_gv hF (wanted_none rfl) rfl rfl (gv_field (r := 1) rfl Tryd.underlying35 rfl rfl Tryd.sz33 (by decide) (hF.t rfl)) fun a hF => ?_)
  refine wpList_stp (stp_gv hF (wanted_none rfl) rfl rfl (gv_load rfl Tryd.underlying33 rfl (hF.t rfl) (cell_ix (j := 1) (hS.cell (k := 0) rfl (rfl)) (by omega))) fun a hF => ?_)
  refine wpList_stp (stp_gv hF (wanted_none rfl) rfl rfl (gv_neqNil rfl Tryd.underlying33 (hF.t rfl) (ev_const _ _)) fun a hF => ?_)
  refine wpList_nil ?_
  refine then_normal (hKq11 _ _ ?_)
  refine wp_cond_true (hF.t rfl) ?_
  -- region 9 (packet.go:111)
  refine Fw.wp_region_draw (by kernel_rfl) fun w hx => ?_
  replace hS := hS.ext hx
  replace hS := hS.move (k := 2) rfl
  replace hS := hS.move (k := 2) rfl
  clear hx
  refine run_headT (n := 11) _ [10] (fun s_ w => stays w00 ⟨true, some r, rdr seq (.pointer (some ⟨s, 0, none⟩)) mac n (.slice (some ⟨b0, o0, none⟩) bl.length c) (.slice (some ⟨b0, o0, none⟩) 16 16) false⟩ ⟨true, some r, rdr seq (.pointer (some ⟨s, 0, none⟩)) mac n (.slice (some ⟨b0, o0, none⟩) bl.length c) (.slice (some ⟨b0, o0, none⟩) 16 16) false⟩ T0 w ∧ (s_ = 0 → St w00 w (⟨true, some s, strm K C lv⟩ :: ⟨true, okb, blkB 129 B⟩ :: ⟨true, some r, rdr seq (.pointer (some ⟨s, 0, none⟩)) mac n (.slice (some ⟨b0, o0, none⟩) bl.length c) (.slice (some ⟨b0, o0, none⟩) 16 16) false⟩ :: T0))) [(5, 54, FtE (.pointer (some ⟨s, 0, none⟩))), (9, 58, FtE (.slice (some ⟨b0, o0, none⟩) 16 16)), (10, 59, fun s_ v w => s_ = 1 ∧ ∃ lv1 okb1 B1, ownP w00 5 (⟨true, some s, strm K C1 lv1⟩ :: ⟨true, okb1, blkB 129 B1⟩ :: ⟨true, some r, rdr seq (.pointer (some ⟨s, 0, none⟩)) mac n (.slice (some ⟨b0, o0, none⟩) bl.length c) (.slice (some ⟨b0, o0, none⟩) 16 16) false⟩ :: T0) (P.take 16) v w ∧ SRd w00 [⟨true, okb1, blkB 129 B1⟩] lv1 (L1.map vB))] hF (hS.toExt (nw_cons rfl (nw_cons rfl (nw_cons rfl hT0)))) (⟨⟨_, hS, (nw_cons rfl (nw_cons rfl (nw_cons rfl hT0))), (List.mem_of_getElem? (i := 2) rfl), (List.mem_of_getElem? (i := 2) rfl), (fun e he => List.mem_cons_of_mem _ (List.mem_cons_of_mem _ (List.mem_cons_of_mem _ (he))))⟩, fun _ => hS⟩) (fun _ _ _ h hx => ⟨h.1.ext hx, fun hs => (h.2 hs).ext hx⟩) (by kernel_rfl) rfl (fa_cons rfl (fa_cons rfl (fa_cons rfl fa_nil))) (fa_cons (FtE.lasts _) (fa_cons (FtE.lasts _) (fa_cons (fun _ _ _ _ h hx => ⟨h.1, by obtain ⟨a1, a2, a3, h1, h2⟩ := h.2; exact ⟨a1, a2, a3, h1.ext hx, h2⟩⟩) fa_nil))) (fa_cons ⟨Nat.zero_le _, Nat.le_of_ble_eq_true rfl⟩ (fa_cons ⟨Nat.zero_le _, Nat.le_of_ble_eq_true rfl⟩ (fa_cons ⟨Nat.zero_le _, Nat.le_of_ble_eq_true rfl⟩ fa_nil))) rfl (by kernel_rfl) ?_
  refine dw_gv hF rfl (wanted_none rfl) rfl rfl (fun w hx => gv_move rfl (hF.t rfl)) fun a hF => ?_
  refine dw_gv hF rfl (wanted_none rfl) rfl rfl (fun w hx => gv_move rfl (hF.t rfl)) fun a hF => ?_
  refine dw_gv hF rfl (wanted_none rfl) rfl rfl (fun w hx => gv_nilCheck rfl (hF.t rfl)) fun a hF => ?_
  refine dw_gv hF rfl (wanted_none rfl) rfl rfl (fun w hx => gv_field (r := 0) rfl Tryd.underlying47 rfl rfl Tryd.sz35 (by decide) (hF.t rfl)) fun a hF => ?_
  refine dw_gv hF rfl (wanted_none rfl) rfl rfl (fun w hx => gv_field (r := 1) rfl Tryd.underlying35 rfl rfl Tryd.sz33 (by decide) (hF.t rfl)) fun a hF => ?_
  refine dw_fl rfl ?_
  refine dw_gv hF rfl (wanted_none rfl) rfl rfl (fun w hx => gv_move rfl (hF.t rfl)) fun a hF => ?_
  refine dw_gv hF rfl (wanted_none rfl) rfl rfl (fun w hx => gv_nilCheck rfl (hF.t rfl)) fun a hF => ?_
  refine dw_gv hF rfl (wanted_none rfl) rfl rfl (fun w hx => gv_field (r := 5) rfl Tryd.underlying47 rfl rfl Tryd.sz22 (by decide) (hF.t rfl)) fun a hF => ?_
  refine dw_fl rfl ?_
  refine dw_fl rfl ?_
  refine dw_nil ⟨(fa_cons ?_ (fa_cons ?_ (fa_cons ?_ fa_nil))), fun a w hx hA hR hP => ?_⟩
  · intro s_ a w hsl hx hA hdp hP
    replace hF := hA _ hF
    exact ⟨_, rfl, .inl ⟨show (5 : Nat) ∉ [10] from by decide, sx_gv (wanted_none rfl) (gv_load rfl Tryd.underlying33 rfl (hF.t rfl) (hP.1.cell (i := 1) rfl)) rfl⟩⟩
  · intro s_ a w hsl hx hA hdp hP
    replace hF := hA _ hF
    exact ⟨_, rfl, .inl ⟨show (9 : Nat) ∉ [10] from by decide, sx_gv (wanted_none rfl) (gv_load rfl Tryd.underlying22 rfl (hF.t rfl) (hP.1.cell (i := 5) rfl)) rfl⟩⟩
  · intro s_ a w hsl hx hA hdp hP
    replace hF := hA _ hF
    refine ⟨_, rfl, .inr ⟨0, rfl, fun hs => ?_⟩⟩
    subst hs
    refine tx_call (wanted_none rfl) Tryd.ok46 rfl (Evs.cons ((hF.t rfl).trans (hdp _ (List.mem_of_getElem? (i := 0) rfl) (by kernel_rfl))) (Evs.cons ((hF.t rfl).trans (hdp _ (List.mem_of_getElem? (i := 1) rfl) (by kernel_rfl))) Evs.nil)) ((turn_ok (bl := bl.take 16) (nw_cons rfl hT0) (hP.2 rfl) hL (hb16.mono (fun e he => List.mem_cons_of_mem _ (he))) hK hC (by omega)).mono fun e w' h => ?_)
    obtain ⟨x, xp, lv1, okb1, B1, he, xo, xc, hS1, hL1⟩ := h
    rw [hl16] at he hS1 hL1 xc
    rw [e16, hk16] at hS1
    rw [hk16] at hL1
    refine ⟨_, he, hS1.toExt (nw_cons rfl (nw_cons rfl (nw_cons rfl (nw_cons rfl hT0)))), ⟨⟨_, hS1, (nw_cons rfl (nw_cons rfl (nw_cons rfl (nw_cons rfl hT0)))), (List.mem_of_getElem? (i := 3) rfl), (List.mem_of_getElem? (i := 3) rfl), (fun e he => List.mem_cons_of_mem _ (List.mem_cons_of_mem _ (List.mem_cons_of_mem _ (List.mem_cons_of_mem _ (he)))))⟩, fun h => by cases h⟩, ⟨rfl, lv1, okb1, B1, ⟨x, xp, ?_, ?_, ?_, hS1⟩, hL1⟩, (fa_cons id (fa_cons id (fa_cons (fun h => absurd h.1 (by decide)) fa_nil)))⟩
    · rw [hP16]
    · intro h; have := congrArg List.length (xo h).1; rw [hl16] at this; cases this
    · rw [hP16]; exact xc
  replace hF := hA _ hF
  clear hA
  clear hP
  obtain ⟨_, lv1, okb1, B1, ⟨hd, hp, hv, ho, hdc, hS⟩, hL1⟩ := hR _ (List.mem_of_getElem? (i := 2) rfl)
  obtain ⟨hd, rfl⟩ := own_some ho (by omega)
  rw [hP16] at hv hdc
  replace hF : Fr 225 a [(0, .pointer (some ⟨r, 0, none⟩)), (4, vI 16), (49, .pointer (some ⟨r, 0, none⟩)), (59, ownV (some hd) 16 (16 + hp.length))] := hF.sub ⟨rfl, rfl, rfl, congrArg some hv, trivial⟩
  clear hv hR ho
  refine run_stp (by kernel_rfl) rfl (stp_gv hF (wanted_none rfl) rfl rfl (gv_nilCheck rfl (hF.t rfl)) fun a hF => ?_)
  refine run_stp (by kernel_rfl) rfl (stp_gv hF (wanted_none rfl) rfl rfl (gv_field (r := 5) rfl Tryd.underlying47 rfl rfl Tryd.sz22 (by decide) (hF.t rfl)) fun a hF => ?_)
  refine run_stp (by kernel_rfl) rfl (stp_storeAt (5) hF (wanted_none rfl) rfl rfl Tryd.sz22 (hF.t rfl) (by omega) (hF.t rfl) rfl hS (k := 3) rfl (by simp) fun w hS => ?_)
  refine run_done (by decide) ?_
  refine then_normal (hKq10 _ _ ?_)
  -- region 10 (packet.go:113)
  refine wp_region_lit ?_
  refine wpList_stp (stp_gv hF (wanted_none rfl) rfl rfl (gv_move rfl (hF.t rfl)) fun a hF => ?_)
  refine wpList_stp (stp_gv hF (wanted_none rfl) rfl rfl (gv_move rfl (hF.t rfl)) fun a hF => ?_)
  refine wpList_stp (stp_gv hF (wanted_none rfl) rfl rfl (gv_nilCheck rfl (hF.t rfl)) fun a hF => ?_)
  refine wpList_stp (stp_gv hF (wanted_none rfl) rfl rfl (gv_field (r := 4) rfl Tryd.underlying47 rfl rfl Tryd.sz22 (by decide) (hF.t rfl)) fun a hF => ?_)
  refine wpList_stp (stp_gv hF (wanted_none rfl) rfl rfl (gv_load rfl Tryd.underlying22 rfl (hF.t rfl) (cell_ix (j := 4) (hS.cell (k := 3) rfl (rfl)) (by omega))) fun a hF => ?_)
  refine wpList_stp (stp_gv hF (wanted_none rfl) rfl rfl (gv_move rfl (hF.t rfl)) fun a hF => ?_)
  refine wpList_stp (stp_gv hF (wanted_none rfl) rfl rfl (gv_sliceLo rfl Tryd.underlying22 Tryd.sz5 (hF.t rfl) (hF.t rfl) (by omega)) fun a hF => ?_)
  refine wpList_stp (stp_gv hF (wanted_none rfl) rfl rfl (gv_nilCheck rfl (hF.t rfl)) fun a hF => ?_)
  refine wpList_stp (stp_gv hF (wanted_none rfl) rfl rfl (gv_field (r := 4) rfl Tryd.underlying47 rfl rfl Tryd.sz22 (by decide) (hF.t rfl)) fun a hF => ?_)
  refine wpList_stp (stp_storeAt (4) hF (wanted_none rfl) rfl rfl Tryd.sz22 (hF.t rfl) (by omega) (hF.t rfl) rfl hS (k := 3) rfl (by simp) fun w hS => ?_)
  refine wpList_nil ?_
  refine then_normal (hKq5 _ _ ?_)
  refine wp_seq_k fun Kq12 hKq12 => ?_
  -- region 11 (packet.go:115)
  refine wp_region_lit ?_
  refine wpList_stp (stp_gv hF (wanted_none rfl) rfl rfl (gv_move rfl (hF.t rfl)) fun a hF => ?_)
  refine wpList_stp (stp_gv hF (wanted_none rfl) rfl rfl (gv_nilCheck rfl (hF.t rfl)) fun a hF => ?_)
  refine wpList_stp (stp_gv hF (wanted_none rfl) rfl rfl (gv_field (r := 5) rfl Tryd.underlying47 rfl rfl Tryd.sz22 (by decide) (hF.t rfl)) fun a hF => ?_)
  refine wpList_stp (stp_gv hF (wanted_none rfl) rfl rfl (gv_load rfl Tryd.underlying22 rfl (hF.t rfl) (cell_ix (j := 5) (hS.cell (k := 3) rfl (rfl)) (by omega))) fun a hF => ?_)
  refine wpList_stp (stp_call hF (wanted_none rfl) rfl rfl Tryd.ok48 rfl (Evs.cons (hF.t rfl) Evs.nil) from_ok fun e w h => ?_)
  obtain ⟨rr, rfl, hN⟩ := h
  refine ⟨_, rfl, fun a hF => ?_⟩
  replace hS := hS.join hN (nw_cons rfl nw_nil)
  simp only [List.cons_append, List.nil_append] at hS
  clear hN
  have hhd := own_rd (w0 := w00) (T := ⟨true, some hd, blk 5 ((P.take 16).map vB ++ hp)⟩ :: []) (ob := some hd) (l := P.take 16) (pad := hp) List.mem_cons_self (fun h => by cases h) hP16 hdc
  refine wpList_stp (stp_call hF (wanted_none rfl) rfl rfl Tryd.ok49 rfl (Evs.cons (hF.t rfl) Evs.nil) (ru32_ok (bl := P.take 16) (c := 16 + hp.length) (nw_cons rfl (nw_cons rfl (nw_cons rfl (nw_cons rfl hT0)))) (by rw [hP16]; exact hS) (by rw [hP16]; exact SRd.mono hhd (fun e he => by obtain rfl := List.mem_singleton.1 he; exact List.mem_cons_self)) (by omega) (by omega)) fun e w h => ?_)
  obtain ⟨rfl, hS⟩ := h
  refine ⟨_, rfl, fun a hF => ?_⟩
  replace hS := hS.drop rfl
  clear hhd
  refine wpList_stp (stp_gv hF (wanted_none rfl) rfl rfl (gv_conv_w_i rfl Tryd.underlying32 Tryd.underlying3 (hF.t rfl)) fun a hF => ?_)
  refine wpList_stp (stp_gv hF (wanted_none rfl) rfl rfl (gv_assign rfl (hF.t rfl)) fun a hF => ?_)
  refine wpList_nil ?_
  refine then_normal (hKq12 _ _ ?_)
  refine wp_seq_k fun Kq13 hKq13 => ?_
  refine wp_seq_k fun Kq14 hKq14 => ?_
  -- region 12 (packet.go:116)
  refine wp_region_lit ?_
  refine wpList_stp (stp_gv hF (wanted_none rfl) rfl rfl (gv_move rfl (hF.t rfl)) fun a hF => ?_)
  refine wpList_stp (stp_gv hF (wanted_none rfl) rfl rfl (gv_lssF rfl (hF.t rfl) (ev_const _ _) (by omega)) fun a hF => ?_)
  refine wpList_stp (stp_gv hF (wanted_none rfl) rfl rfl (gv_move rfl (hF.t rfl)) fun a hF => ?_)
  refine wpList_stp (stp_gv hF (wanted_of hF rfl rfl (rfl)) rfl rfl (gv_move rfl (hF.t rfl)) fun a hF => ?_)
  refine wpList_stp (stp_gv hF (wanted_of hF rfl rfl (rfl)) rfl rfl (gv_gtrF rfl (hF.t rfl) (ev_const _ _) (by omega)) fun a hF => ?_)
  refine wpList_stp (stp_gv hF (wanted_none rfl) rfl rfl (gv_pickF rfl (hF.t rfl) (hF.t rfl)) fun a hF => ?_)
  refine wpList_stp (stp_gv hF (wanted_none rfl) rfl rfl (gv_move rfl (hF.t rfl)) fun a hF => ?_)
  refine wpList_stp (stp_gv hF (wanted_of hF rfl rfl (rfl)) rfl rfl (gv_move rfl (hF.t rfl)) fun a hF => ?_)
  refine wpList_stp (stp_gv hF (wanted_of hF rfl rfl (rfl)) rfl rfl (gv_nadd (n := 4) rfl (hF.t rfl) rfl (by omega)) fun a hF => ?_)
  refine wpList_stp (stp_gv hF (wanted_of hF rfl rfl (rfl)) rfl rfl (gv_move rfl (hF.t rfl)) fun a hF => ?_)
  refine wpList_stp (stp_gv hF (wanted_of hF rfl rfl (rfl)) rfl rfl (gv_nrem rfl (hF.t rfl) (hF.t rfl) (by omega)) fun a hF => ?_)
  refine wpList_stp (stp_gv hF (wanted_of hF rfl rfl (rfl)) rfl rfl (gv_neqF rfl (hF.t rfl) (ev_const _ _) (by omega)) fun a hF => ?_)
  refine wpList_stp (stp_gv hF (wanted_none rfl) rfl rfl (gv_pickF rfl (hF.t rfl) (hF.t rfl)) fun a hF => ?_)
  refine wpList_nil ?_
  refine then_normal (hKq14 _ _ ?_)
  refine wp_cond_false (hF.t rfl) ?_
  refine wp_skip ?_
  refine then_normal (hKq13 _ _ ?_)
  refine wp_seq_k fun Kq15 hKq15 => ?_
  -- region 14 (packet.go:119)
  refine wp_region_lit ?_
  refine wpList_stp (stp_gv hF (wanted_none rfl) rfl rfl (gv_move rfl (hF.t rfl)) fun a hF => ?_)
  refine wpList_stp (stp_gv hF (wanted_none rfl) rfl rfl (gv_nadd (n := 4) rfl (hF.t rfl) rfl (by omega)) fun a hF => ?_)
  refine wpList_stp (stp_gv hF (wanted_none rfl) rfl rfl (gv_move rfl (hF.t rfl)) fun a hF => ?_)
  refine wpList_stp (stp_gv hF (wanted_none rfl) rfl rfl (gv_nsub rfl (hF.t rfl) (hF.t rfl) (by omega) (by omega)) fun a hF => ?_)
  rw [show (u32A (P.take 16) 4).toNat + 4 - 16 = L - 16 by omega] at hF
  refine wpList_stp (stp_gv hF (wanted_none rfl) rfl rfl (gv_assign rfl (hF.t rfl)) fun a hF => ?_)
  refine wpList_nil ?_
  refine then_normal (hKq15 _ _ ?_)
  refine wp_seq_k fun Kq16 hKq16 => ?_
  refine wp_seq_k fun Kq17 hKq17 => ?_
  -- region 15 (packet.go:120)
  refine wp_region_lit ?_
  refine wpList_stp (stp_gv hF (wanted_none rfl) rfl rfl (gv_move rfl (hF.t rfl)) fun a hF => ?_)
  refine wpList_stp (stp_gv hF (wanted_none rfl) rfl rfl (gv_nilCheck rfl (hF.t rfl)) fun a hF => ?_)
  refine wpList_stp (stp_gv hF (wanted_none rfl) rfl rfl (gv_field (r := 0) rfl Tryd.underlying47 rfl rfl Tryd.sz35 (by decide) (hF.t rfl)) fun a hF => ?_)
  refine wpList_stp (stp_gv hF (wanted_none rfl) rfl rfl (gv_field (r := 1) rfl Tryd.underlying35 rfl rfl Tryd.sz33 (by decide) (hF.t rfl)) fun a hF => ?_)
  refine wpList_stp (stp_gv hF (wanted_none rfl) rfl rfl (gv_load rfl Tryd.underlying33 rfl (hF.t rfl) (cell_ix (j := 1) (hS.cell (k := 3) rfl (rfl)) (by omega))) fun a hF => ?_)
  refine wpList_stp (stp_gv hF (wanted_none rfl) rfl rfl (gv_neqNil rfl Tryd.underlying33 (hF.t rfl) (ev_const _ _)) fun a hF => ?_)
  refine wpList_nil ?_
  refine then_normal (hKq17 _ _ ?_)
  refine wp_cond_true (hF.t rfl) ?_
  -- region 16 (packet.go:121)
  refine wp_region_lit ?_
  refine wpList_stp (stp_gv hF (wanted_none rfl) rfl rfl (gv_move rfl (hF.t rfl)) fun a hF => ?_)
  refine wpList_stp (stp_gv hF (wanted_none rfl) rfl rfl (gv_nadd (n := 32) rfl (hF.t rfl) rfl (by omega)) fun a hF => ?_)
  refine wpList_stp (stp_gv hF (wanted_none rfl) rfl rfl (gv_assign rfl (hF.t rfl)) fun a hF => ?_)
  refine wpList_nil ?_
  refine then_normal (hKq16 _ _ ?_)
  refine wp_seq_k fun Kq18 hKq18 => ?_
  refine wp_seq_k fun Kq19 hKq19 => ?_
  -- region 17 (packet.go:123)
  refine wp_region_lit ?_
  refine wpList_stp (stp_gv hF (wanted_none rfl) rfl rfl (gv_move rfl (hF.t rfl)) fun a hF => ?_)
  refine wpList_stp (stp_gv hF (wanted_none rfl) rfl rfl (gv_nilCheck rfl (hF.t rfl)) fun a hF => ?_)
  refine wpList_stp (stp_gv hF (wanted_none rfl) rfl rfl (gv_field (r := 4) rfl Tryd.underlying47 rfl rfl Tryd.sz22 (by decide) (hF.t rfl)) fun a hF => ?_)
  refine wpList_stp (stp_gv hF (wanted_none rfl) rfl rfl (gv_load rfl Tryd.underlying22 rfl (hF.t rfl) (cell_ix (j := 4) (hS.cell (k := 3) rfl (rfl)) (by omega))) fun a hF => ?_)
  refine wpList_stp (stp_gv hF (wanted_none rfl) rfl rfl (gv_len rfl Tryd.underlying22 (hF.t rfl)) fun a hF => ?_)
  refine wpList_stp (stp_gv hF (wanted_none rfl) rfl rfl (gv_move rfl (hF.t rfl)) fun a hF => ?_)
  refine wpList_stp (stp_gv hF (wanted_none rfl) rfl rfl (gv_lssF rfl (hF.t rfl) (hF.t rfl) (by omega)) fun a hF => ?_)
  refine wpList_nil ?_
  refine then_normal (hKq19 _ _ ?_)
  refine wp_cond_false (hF.t rfl) ?_
  refine wp_skip ?_
  refine then_normal (hKq18 _ _ ?_)
  refine wp_seq_k fun Kq20 hKq20 => ?_
  -- region 19 (packet.go:126)
  refine wp_region_lit ?_
  refine wpList_stp (stp_gv hF (wanted_none rfl) rfl rfl (gv_move rfl (hF.t rfl)) fun a hF => ?_)
  refine wpList_stp (stp_gv hF (wanted_none rfl) rfl rfl (gv_nilCheck rfl (hF.t rfl)) fun a hF => ?_)
  refine wpList_stp (stp_gv hF (wanted_none rfl) rfl rfl (gv_field (r := 5) rfl Tryd.underlying47 rfl rfl Tryd.sz22 (by decide) (hF.t rfl)) fun a hF => ?_)
  refine wpList_stp (stp_gv hF (wanted_none rfl) rfl rfl (gv_load rfl Tryd.underlying22 rfl (hF.t rfl) (cell_ix (j := 5) (hS.cell (k := 3) rfl (rfl)) (by omega))) fun a hF => ?_)
  refine wpList_stp (stp_gv hF (wanted_none rfl) rfl rfl (gv_assign rfl (hF.t rfl)) fun a hF => ?_)
  refine wpList_nil ?_
  refine then_normal (hKq20 _ _ ?_)
  refine wp_seq_k fun Kq21 hKq21 => ?_
  refine wp_seq_k fun Kq22 hKq22 => ?_
  -- region 20 (packet.go:127)
  refine wp_region_lit ?_
  refine wpList_stp (stp_gv hF (wanted_none rfl) rfl rfl (gv_move rfl (hF.t rfl)) fun a hF => ?_)
  refine wpList_stp (stp_gv hF (wanted_none rfl) rfl rfl (gv_nilCheck rfl (hF.t rfl)) fun a hF => ?_)
  refine wpList_stp (stp_gv hF (wanted_none rfl) rfl rfl (gv_field (r := 0) rfl Tryd.underlying47 rfl rfl Tryd.sz35 (by decide) (hF.t rfl)) fun a hF => ?_)
  refine wpList_stp (stp_gv hF (wanted_none rfl) rfl rfl (gv_field (r := 1) rfl Tryd.underlying35 rfl rfl Tryd.sz33 (by decide) (hF.t rfl)) fun a hF => ?_)
  refine wpList_stp (stp_gv hF (wanted_none rfl) rfl rfl (gv_load rfl Tryd.underlying33 rfl (hF.t rfl) (cell_ix (j := 1) (hS.cell (k := 3) rfl (rfl)) (by omega))) fun a hF => ?_)
  refine wpList_stp (stp_gv hF (wanted_none rfl) rfl rfl (gv_neqNil rfl Tryd.underlying33 (hF.t rfl) (ev_const _ _)) fun a hF => ?_)
  refine wpList_nil ?_
  refine then_normal (hKq22 _ _ ?_)
  refine wp_cond_true (hF.t rfl) ?_
  refine wp_seq_k fun Kq23 hKq23 => ?_
  -- region 21 (packet.go:128)
  refine Fw.wp_region_draw (by kernel_rfl) fun w hx => ?_
  replace hS := hS.ext hx
  replace hS := hS.move (k := 3) rfl
  replace hS := hS.move (k := 1) rfl
  replace hS := hS.move (k := 3) rfl
  replace hS := hS.move (k := 3) rfl
  clear hx
  refine run_headT (n := 15) _ [13, 14] (fun s_ w => stays w00 ⟨true, some r, rdr seq (.pointer (some ⟨s, 0, none⟩)) mac n (cutV (some ⟨b0, o0, none⟩) bl.length c 16) (.slice (some ⟨hd, 0, none⟩) 16 (16 + hp.length)) false⟩ ⟨true, some r, rdr seq (.pointer (some ⟨s, 0, none⟩)) mac n (cutV (some ⟨b0, o0, none⟩) bl.length c 16) (.slice (some ⟨hd, 0, none⟩) 16 (16 + hp.length)) false⟩ T0 w ∧ (s_ = 0 → St w00 w (⟨true, some s, strm K C1 lv1⟩ :: ⟨true, okb1, blkB 129 B1⟩ :: ⟨true, some hd, blk 5 ((P.take 16).map vB ++ hp)⟩ :: ⟨true, some r, rdr seq (.pointer (some ⟨s, 0, none⟩)) mac n (cutV (some ⟨b0, o0, none⟩) bl.length c 16) (.slice (some ⟨hd, 0, none⟩) 16 (16 + hp.length)) false⟩ :: T0))) [(5, 129, FtE (.pointer (some ⟨s, 0, none⟩))), (9, 133, FtE (cutV (some ⟨b0, o0, none⟩) bl.length c 16)), (12, 136, FtE (.slice (if c = 16 then some ⟨b0, o0, none⟩ else (some (⟨b0, o0, none⟩ : Addr)).map (·.add 16)) (L - 16) (c - 16))), (13, 137, fun s_ v w => 1 ≤ s_ ∧ (s_ = 1 → ∃ lv2 okb2 B2, ownP w00 5 (⟨true, some s, strm K C2 lv2⟩ :: ⟨true, okb2, blkB 129 B2⟩ :: ⟨true, some hd, blk 5 ((P.take 16).map vB ++ hp)⟩ :: ⟨true, some r, rdr seq (.pointer (some ⟨s, 0, none⟩)) mac n (cutV (some ⟨b0, o0, none⟩) bl.length c 16) (.slice (some ⟨hd, 0, none⟩) 16 (16 + hp.length)) false⟩ :: T0) (P.drop 16) v w ∧ SRd w00 [⟨true, okb2, blkB 129 B2⟩] lv2 (L2.map vB))), (14, 138, fun s_ v w => s_ = 2 ∧ ∃ lv2 okb2 B2, ownP w00 5 (⟨true, some s, strm K C2 lv2⟩ :: ⟨true, okb2, blkB 129 B2⟩ :: ⟨true, some r, rdr seq (.pointer (some ⟨s, 0, none⟩)) mac n (cutV (some ⟨b0, o0, none⟩) bl.length c 16) (.slice (some ⟨hd, 0, none⟩) 16 (16 + hp.length)) false⟩ :: T0) P v w ∧ SRd w00 [⟨true, okb2, blkB 129 B2⟩] lv2 (L2.map vB))] hF (hS.toExt (nw_cons rfl (nw_cons rfl (nw_cons rfl (nw_cons rfl hT0))))) (⟨⟨_, hS, (nw_cons rfl (nw_cons rfl (nw_cons rfl (nw_cons rfl hT0)))), (List.mem_of_getElem? (i := 3) rfl), (List.mem_of_getElem? (i := 3) rfl), (fun e he => List.mem_cons_of_mem _ (List.mem_cons_of_mem _ (List.mem_cons_of_mem _ (List.mem_cons_of_mem _ (he)))))⟩, fun _ => hS⟩) (fun _ _ _ h hx => ⟨h.1.ext hx, fun hs => (h.2 hs).ext hx⟩) (by kernel_rfl) rfl (fa_cons rfl (fa_cons rfl (fa_cons rfl (fa_cons rfl (fa_cons rfl fa_nil))))) (fa_cons (FtE.lasts _) (fa_cons (FtE.lasts _) (fa_cons (FtE.lasts _) (fa_cons (fun _ _ _ _ h hx => ⟨h.1, fun hs => by obtain ⟨a1, a2, a3, h1, h2⟩ := h.2 hs; exact ⟨a1, a2, a3, h1.ext hx, h2⟩⟩) (fa_cons (fun _ _ _ _ h hx => ⟨h.1, by obtain ⟨a1, a2, a3, h1, h2⟩ := h.2; exact ⟨a1, a2, a3, h1.ext hx, h2⟩⟩) fa_nil))))) (fa_cons ⟨Nat.zero_le _, Nat.le_of_ble_eq_true rfl⟩ (fa_cons ⟨Nat.zero_le _, Nat.le_of_ble_eq_true rfl⟩ (fa_cons ⟨Nat.zero_le _, Nat.le_of_ble_eq_true rfl⟩ (fa_cons ⟨Nat.zero_le _, Nat.le_of_ble_eq_true rfl⟩ (fa_cons ⟨Nat.zero_le _, Nat.le_of_ble_eq_true rfl⟩ fa_nil))))) rfl (by kernel_rfl) ?_
  refine dw_gv hF rfl (wanted_none rfl) rfl rfl (fun w hx => gv_move rfl (hF.t rfl)) fun a hF => ?_
  refine dw_gv hF rfl (wanted_none rfl) rfl rfl (fun w hx => gv_move rfl (hF.t rfl)) fun a hF => ?_
  refine dw_gv hF rfl (wanted_none rfl) rfl rfl (fun w hx => gv_nilCheck rfl (hF.t rfl)) fun a hF => ?_
  refine dw_gv hF rfl (wanted_none rfl) rfl rfl (fun w hx => gv_field (r := 0) rfl Tryd.underlying47 rfl rfl Tryd.sz35 (by decide) (hF.t rfl)) fun a hF => ?_
  refine dw_gv hF rfl (wanted_none rfl) rfl rfl (fun w hx => gv_field (r := 1) rfl Tryd.underlying35 rfl rfl Tryd.sz33 (by decide) (hF.t rfl)) fun a hF => ?_
  refine dw_fl rfl ?_
  refine dw_gv hF rfl (wanted_none rfl) rfl rfl (fun w hx => gv_move rfl (hF.t rfl)) fun a hF => ?_
  refine dw_gv hF rfl (wanted_none rfl) rfl rfl (fun w hx => gv_nilCheck rfl (hF.t rfl)) fun a hF => ?_
  refine dw_gv hF rfl (wanted_none rfl) rfl rfl (fun w hx => gv_field (r := 4) rfl Tryd.underlying47 rfl rfl Tryd.sz22 (by decide) (hF.t rfl)) fun a hF => ?_
  refine dw_fl rfl ?_
  refine dw_gv hF rfl (wanted_none rfl) rfl rfl (fun w hx => gv_move rfl (hF.t rfl)) fun a hF => ?_
  refine dw_gv hF rfl (wanted_none rfl) rfl rfl (fun w hx => gv_nsub (n := 32) rfl (hF.t rfl) rfl (by omega) (by omega)) fun a hF => ?_
  rw [show L - 16 + 32 - 32 = L - 16 by omega] at hF
  refine dw_fl rfl ?_
  refine dw_fl rfl ?_
  refine dw_fl rfl ?_
  refine dw_nil ⟨(fa_cons ?_ (fa_cons ?_ (fa_cons ?_ (fa_cons ?_ (fa_cons ?_ fa_nil))))), fun a w hx hA hR hP => ?_⟩
  · intro s_ a w hsl hx hA hdp hP
    replace hF := hA _ hF
    exact ⟨_, rfl, .inl ⟨show (5 : Nat) ∉ [13, 14] from by decide, sx_gv (wanted_none rfl) (gv_load rfl Tryd.underlying33 rfl (hF.t rfl) (hP.1.cell (i := 1) rfl)) rfl⟩⟩
  · intro s_ a w hsl hx hA hdp hP
    replace hF := hA _ hF
    exact ⟨_, rfl, .inl ⟨show (9 : Nat) ∉ [13, 14] from by decide, sx_gv (wanted_none rfl) (gv_load rfl Tryd.underlying22 rfl (hF.t rfl) (hP.1.cell (i := 4) rfl)) rfl⟩⟩
  · intro s_ a w hsl hx hA hdp hP
    replace hF := hA _ hF
    exact ⟨_, rfl, .inl ⟨show (12 : Nat) ∉ [13, 14] from by decide, sx_gv (wanted_none rfl) (gv_sliceHi rfl Tryd.underlying22 Tryd.sz5 ((hF.t rfl).trans (hdp _ (List.mem_of_getElem? (i := 1) rfl) (by kernel_rfl))) (hF.t rfl) (by omega)) rfl⟩⟩
  · intro s_ a w hsl hx hA hdp hP
    replace hF := hA _ hF
    refine ⟨_, rfl, .inr ⟨0, rfl, fun hs => ?_⟩⟩
    subst hs
    refine tx_call (wanted_none rfl) Tryd.ok46 rfl (Evs.cons ((hF.t rfl).trans (hdp _ (List.mem_of_getElem? (i := 0) rfl) (by kernel_rfl))) (Evs.cons ((hF.t rfl).trans (hdp _ (List.mem_of_getElem? (i := 2) rfl) (by kernel_rfl))) Evs.nil)) ((turn_ok (bl := (bl.drop 16).take (L - 16)) (nw_cons rfl (nw_cons rfl hT0)) (hP.2 rfl) hL1 (hbT.mono (fun e he => List.mem_cons_of_mem _ (List.mem_cons_of_mem _ (he)))) hK hC1 (by omega)).mono fun e w' h => ?_)
    obtain ⟨x, xp, lv2, okb2, B2, he, xo, xc, hS1, hL2⟩ := h
    rw [hlT] at he hS1 hL2 xc
    rw [eT, hkL] at hS1
    rw [hkL] at hL2
    refine ⟨_, he, hS1.toExt (nw_cons rfl (nw_cons rfl (nw_cons rfl (nw_cons rfl (nw_cons rfl hT0))))), ⟨⟨_, hS1, (nw_cons rfl (nw_cons rfl (nw_cons rfl (nw_cons rfl (nw_cons rfl hT0))))), (List.mem_of_getElem? (i := 4) rfl), (List.mem_of_getElem? (i := 4) rfl), (fun e he => List.mem_cons_of_mem _ (List.mem_cons_of_mem _ (List.mem_cons_of_mem _ (List.mem_cons_of_mem _ (List.mem_cons_of_mem _ (he))))))⟩, fun h => by cases h⟩, ⟨by omega, fun _ => ⟨lv2, okb2, B2, ⟨x, xp, ?_, ?_, ?_, hS1⟩, hL2⟩⟩, (fa_cons id (fa_cons id (fa_cons id (fa_cons (fun h => absurd h.1 (by decide)) (fa_cons (fun h => absurd h.1 (by decide)) fa_nil)))))⟩
    · rw [hPd]
    · intro h; have hz := congrArg List.length (xo h).1; rw [hlT] at hz; exact ⟨List.length_eq_zero_iff.1 (by rw [hPd, hz]; rfl), (xo h).2⟩
    · rw [hPd]; exact xc
  · intro s_ a w hsl hx hA hdp hP
    replace hF := hA _ hF
    refine ⟨_, rfl, .inr ⟨1, rfl, fun hs => ?_⟩⟩
    subst hs
    obtain ⟨lv2, okb2, B2, ⟨x, xp, hv, xo, xc, hS1⟩, hL2⟩ := ((hdp _ (List.mem_of_getElem? (i := 3) rfl) (by kernel_rfl))).2 rfl
    have hRx : Rd w (slot a 137) ((P.drop 16).map vB) := by
      have hv' : slot a 137 = _ := hv
      rw [hv']
      exact rd_own hS1 List.mem_cons_self (nw_cons rfl (nw_cons rfl (nw_cons rfl (nw_cons rfl (nw_cons rfl hT0))))) xo rfl xc
    refine tx_appB (ob := some hd) (l := P.take 16) (ml := P.drop 16) (pad := hp) (k := 3) (wanted_none rfl) rfl Tryd.underlying22 Tryd.ty5 rfl (by rw [hP16]; exact hF.t rfl) (hF.t rfl) hS1 rfl (fun h => by cases h) (by rw [hP16]; exact hdc) hRx (by omega) fun o op w' h2 h3 h4 => ?_
    rw [List.take_append_drop] at h2 h3 h4 ⊢
    have h5 := (St.drop h4 rfl).move (k := 2) rfl
    exact ⟨h4.toExt (nw_cons rfl (nw_cons rfl (nw_cons rfl (nw_cons rfl (nw_cons rfl hT0))))), ⟨⟨_, h4, (nw_cons rfl (nw_cons rfl (nw_cons rfl (nw_cons rfl (nw_cons rfl hT0))))), (List.mem_of_getElem? (i := 4) rfl), (List.mem_of_getElem? (i := 4) rfl), (fun e he => List.mem_cons_of_mem _ (List.mem_cons_of_mem _ (List.mem_cons_of_mem _ (List.mem_cons_of_mem _ (List.mem_cons_of_mem _ (he))))))⟩, fun h => by cases h⟩, ⟨rfl, lv2, okb2, B2, ⟨o, op, rfl, h2, h3, h5⟩, hL2⟩, (fa_cons id (fa_cons id (fa_cons id (fa_cons (fun _ => ⟨by omega, fun h => by cases h⟩) (fa_cons (fun h => absurd h.1 (by decide)) fa_nil)))))⟩
  replace hF := hA _ hF
  clear hA
  clear hP
  obtain ⟨_, lv2, okb2, B2, ⟨hd2, hp2, hv, ho2, hdc2, hS⟩, hL2⟩ := hR _ (List.mem_of_getElem? (i := 4) rfl)
  obtain ⟨hd2, rfl⟩ := own_some ho2 (by omega)
  rw [hPl] at hv hdc2
  replace hF : Fr 225 a [(0, .pointer (some ⟨r, 0, none⟩)), (4, vI 16), (6, vI (L - 16 + 32)), (138, ownV (some hd2) L (L + hp2.length))] := hF.sub ⟨rfl, rfl, rfl, congrArg some hv, trivial⟩
  clear hv hR ho2
  refine run_stp (by kernel_rfl) rfl (stp_gv hF (wanted_none rfl) rfl rfl (gv_assign rfl (hF.t rfl)) fun a hF => ?_)
  refine run_done (by decide) ?_
  refine then_normal (hKq23 _ _ ?_)
  refine wp_seq_k fun Kq24 hKq24 => ?_
  -- region 22 (packet.go:129)
  refine Fw.wp_region_draw (by kernel_rfl) fun w hx => ?_
  replace hS := hS.ext hx
  clear hx
  refine run_headS (n := 15) _ [(4, 143, FlR ((codeF seq ml P).map vB)), (13, 152, FlE (.bool true)), (14, 153, FlE (.bool false))] hF (by kernel_rfl) rfl (fa_cons rfl (fa_cons rfl (fa_cons rfl fa_nil))) (fa_cons (FlR.lasts _) (fa_cons (FlE.lasts _) (fa_cons (FlE.lasts _) fa_nil))) (fa_cons ⟨Nat.zero_le _, Nat.le_of_ble_eq_true rfl⟩ (fa_cons ⟨Nat.zero_le _, Nat.le_of_ble_eq_true rfl⟩ (fa_cons ⟨Nat.zero_le _, Nat.le_of_ble_eq_true rfl⟩ fa_nil))) rfl ?_
  refine dw_gv hF rfl (wanted_none rfl) rfl rfl (fun w hx => gv_move rfl (hF.t rfl)) fun a hF => ?_
  refine dw_gv hF rfl (wanted_none rfl) rfl rfl (fun w hx => gv_nilCheck rfl (hF.t rfl)) fun a hF => ?_
  refine dw_gv hF rfl (wanted_none rfl) rfl rfl (fun w hx => gv_field (r := 0) rfl Tryd.underlying47 rfl rfl Tryd.sz35 (by decide) (hF.t rfl)) fun a hF => ?_
  refine dw_gv hF rfl (wanted_none rfl) rfl rfl (fun w hx => gv_move rfl (hF.t rfl)) fun a hF => ?_
  refine dw_fl rfl ?_
  refine dw_gv hF rfl (wanted_none rfl) rfl rfl (fun w hx => gv_move rfl (hF.t rfl)) fun a hF => ?_
  refine dw_gv hF rfl (wanted_none rfl) rfl rfl (fun w hx => gv_nilCheck rfl (hF.t rfl)) fun a hF => ?_
  refine dw_gv hF rfl (wanted_none rfl) rfl rfl (fun w hx => gv_field (r := 4) rfl Tryd.underlying47 rfl rfl Tryd.sz22 (by decide) (hF.t rfl)) fun a hF => ?_
  refine dw_gv hF rfl (wanted_none rfl) rfl rfl (fun w hx => gv_load rfl Tryd.underlying22 rfl (hF.t rfl) (cell_ix (j := 4) ((hS.ext hx).cell (k := 3) rfl (rfl)) (by omega))) fun a hF => ?_
  refine dw_gv hF rfl (wanted_none rfl) rfl rfl (fun w hx => gv_move rfl (hF.t rfl)) fun a hF => ?_
  refine dw_gv hF rfl (wanted_none rfl) rfl rfl (fun w hx => gv_nsub (n := 32) rfl (hF.t rfl) rfl (by omega) (by omega)) fun a hF => ?_
  rw [show L - 16 + 32 - 32 = L - 16 by omega] at hF
  refine dw_gv hF rfl (wanted_none rfl) rfl rfl (fun w hx => gv_move rfl (hF.t rfl)) fun a hF => ?_
  refine dw_gv hF rfl (wanted_none rfl) rfl rfl (fun w hx => gv_slice2 rfl Tryd.underlying22 Tryd.sz5 (hF.t rfl) (hF.t rfl) (hF.t rfl) (by omega) (by omega)) fun a hF => ?_
  refine dw_fl rfl ?_
  refine dw_fl rfl ?_
  refine dw_nil ⟨(fa_cons ?_ (fa_cons ?_ (fa_cons ?_ fa_nil))), fun a w hx hA hR => ?_⟩
  · intro a w hx hA hdp
    replace hF := hA _ hF
    replace hS := hS.ext hx
    exact ⟨_, rfl, sx_call (wanted_none rfl) Tryd.ok47 rfl (Evs.cons (hF.t rfl) (Evs.cons (hF.t rfl) Evs.nil)) ((code_ok (hG.ext (hS.toExt (nw_cons rfl (nw_cons rfl (nw_cons rfl (nw_cons rfl hT0)))))) (hS.cell (k := 3) (i := 0) rfl rfl) (hS.cell (k := 3) (i := 2) rfl rfl) (hM _ _ hS (nw_cons rfl (nw_cons rfl (nw_cons rfl (nw_cons rfl hT0)))) (fun e he => List.mem_cons_of_mem _ (List.mem_cons_of_mem _ (List.mem_cons_of_mem _ (List.mem_cons_of_mem _ (he)))))) hml (rd_own (l := P) hS List.mem_cons_self (nw_cons rfl (nw_cons rfl (nw_cons rfl (nw_cons rfl hT0)))) (fun h => by cases h) hPl hdc2) (by omega)).mono fun e w' ⟨v, he, h1, h2⟩ => ⟨v, he, h1, h2⟩)⟩
  · intro a w hx hA hdp
    replace hF := hA _ hF
    replace hS := hS.ext hx
    exact ⟨_, rfl, sx_call (wanted_none rfl) Tryd.ok51 rfl (Evs.cons (hF.t rfl) (Evs.cons (hF.t rfl) Evs.nil)) ((same_ok (hdp _ (List.mem_of_getElem? (i := 0) rfl) (by kernel_rfl)) (hcode _ _ hS (nw_cons rfl (nw_cons rfl (nw_cons rfl (nw_cons rfl hT0)))) (fun e he => List.mem_cons_of_mem _ (List.mem_cons_of_mem _ (List.mem_cons_of_mem _ (List.mem_cons_of_mem _ (he)))))) (by rw [codeF_len]; decide) (by rw [codeF_len]; decide)).mono fun e w' h => ⟨_, h.1, by rw [decide_eq_true rfl]; rfl, h.2⟩)⟩
  · intro a w hx hA hdp
    replace hF := hA _ hF
    replace hS := hS.ext hx
    exact ⟨_, rfl, sx_gv (wanted_none rfl) (gv_not rfl ((hF.t rfl).trans (hdp _ (List.mem_of_getElem? (i := 1) rfl) (by kernel_rfl)))) rfl⟩
  replace hF := hA _ hF
  replace hS := hS.ext hx
  have hbf := hR _ (List.mem_of_getElem? (i := 2) rfl)
  replace hF : Fr 225 a [(0, .pointer (some ⟨r, 0, none⟩)), (4, vI 16), (6, vI (L - 16 + 32)), (7, .slice (some ⟨hd2, 0, none⟩) L (L + hp2.length)), (153, .bool false)] := hF.sub ⟨rfl, rfl, rfl, rfl, congrArg some hbf, trivial⟩
  clear hA hx hR hbf
  refine run_done (by decide) ?_
  refine then_normal (hKq24 _ _ ?_)
  refine wp_cond_false (hF.t rfl) ?_
  refine wp_skip ?_
  refine then_normal (hKq21 _ _ ?_)
  refine wp_seq_k fun Kq25 hKq25 => ?_
  -- region 25 (packet.go:135)
  refine wp_region_lit ?_
  refine wpList_stp (stp_gv hF (wanted_none rfl) rfl rfl (gv_move rfl (hF.t rfl)) fun a hF => ?_)
  refine wpList_stp (stp_gv hF (wanted_none rfl) rfl rfl (gv_move rfl (hF.t rfl)) fun a hF => ?_)
  refine wpList_stp (stp_gv hF (wanted_none rfl) rfl rfl (gv_nilCheck rfl (hF.t rfl)) fun a hF => ?_)
  refine wpList_stp (stp_gv hF (wanted_none rfl) rfl rfl (gv_field (r := 4) rfl Tryd.underlying47 rfl rfl Tryd.sz22 (by decide) (hF.t rfl)) fun a hF => ?_)
  refine wpList_stp (stp_gv hF (wanted_none rfl) rfl rfl (gv_load rfl Tryd.underlying22 rfl (hF.t rfl) (cell_ix (j := 4) (hS.cell (k := 3) rfl (rfl)) (by omega))) fun a hF => ?_)
  refine wpList_stp (stp_gv hF (wanted_none rfl) rfl rfl (gv_move rfl (hF.t rfl)) fun a hF => ?_)
  refine wpList_stp (stp_gv hF (wanted_none rfl) rfl rfl (gv_sliceLo rfl Tryd.underlying22 Tryd.sz5 (hF.t rfl) (hF.t rfl) (by omega)) fun a hF => ?_)
  have hR3 : SRd w00 T0 (cutV (if c = 16 then some ⟨b0, o0, none⟩ else (some (⟨b0, o0, none⟩ : Addr)).map (·.add 16)) (bl.length - 16) (c - 16) (L - 16 + 32)) ((bl.drop (L + 32)).map vB) := by
    have := SRd.cutLo (lo := L - 16 + 32) ht (by omega)
    rw [← List.map_drop, List.drop_drop, show 16 + (L - 16 + 32) = L + 32 by omega] at this
    exact this
  replace hS := hS.addNil (blk 5 (([] : List UInt8).map vB ++ []))
  refine wpList_stp (stp_appB (ob := none) (l := []) (pad := []) (k := 0) hF (wanted_none rfl) rfl rfl rfl Tryd.underlying22 Tryd.ty5 rfl (ev_const _ _) (hF.t rfl) hS rfl (fun _ => ⟨rfl, rfl⟩) (by simp) (hR3 _ _ hS (nw_cons rfl (nw_cons rfl (nw_cons rfl (nw_cons rfl (nw_cons rfl hT0))))) (fun e he => List.mem_cons_of_mem _ (List.mem_cons_of_mem _ (List.mem_cons_of_mem _ (List.mem_cons_of_mem _ (List.mem_cons_of_mem _ (he))))))) (by simp; omega) fun g gp a w hF go gc hS => ?_)
  simp only [List.nil_append] at hF go gc hS
  refine wpList_stp (stp_gv hF (wanted_none rfl) rfl rfl (gv_nilCheck rfl (hF.t rfl)) fun a hF => ?_)
  refine wpList_stp (stp_gv hF (wanted_none rfl) rfl rfl (gv_field (r := 4) rfl Tryd.underlying47 rfl rfl Tryd.sz22 (by decide) (hF.t rfl)) fun a hF => ?_)
  refine wpList_stp (stp_storeAt (4) hF (wanted_none rfl) rfl rfl Tryd.sz22 (hF.t rfl) (by omega) (hF.t rfl) (own_one _ _ _) hS (k := 4) rfl (by simp) fun w hS => ?_)
  refine wpList_nil ?_
  refine then_normal (hKq25 _ _ ?_)
  refine wp_seq_k fun Kq26 hKq26 => ?_
  -- region 26 (packet.go:136)
  refine wp_region_lit ?_
  refine wpList_stp (stp_gv hF (wanted_none rfl) rfl rfl (gv_move rfl (hF.t rfl)) fun a hF => ?_)
  refine wpList_stp (stp_gv hF (wanted_none rfl) rfl rfl (gv_nilCheck rfl (hF.t rfl)) fun a hF => ?_)
  refine wpList_stp (stp_gv hF (wanted_none rfl) rfl rfl (gv_field (r := 5) rfl Tryd.underlying47 rfl rfl Tryd.sz22 (by decide) (hF.t rfl)) fun a hF => ?_)
  refine wpList_stp (stp_storeAt (5) hF (wanted_none rfl) rfl rfl Tryd.sz22 (hF.t rfl) (by omega) (ev_const _ _) rfl hS (k := 4) rfl (by simp) fun w hS => ?_)
  refine wpList_nil ?_
  refine then_normal (hKq26 _ _ ?_)
  refine wp_seq_k fun Kq27 hKq27 => ?_
  -- region 27 (packet.go:137)
  refine wp_region_lit ?_
  refine wpList_stp (stp_gv hF (wanted_none rfl) rfl rfl (gv_move rfl (hF.t rfl)) fun a hF => ?_)
  refine wpList_stp (stp_gv hF (wanted_none rfl) rfl rfl (gv_indexSl (q := 4) rfl Tryd.underlying22 Tryd.sz5 (hF.t rfl) rfl (by omega)) fun a hF => ?_)
  refine wpList_stp (stp_gv hF (wanted_none rfl) rfl rfl (gv_load rfl Tryd.underlying5 rfl (hF.t rfl) (cell_ix (j := 4) (hS.cell (k := 1) rfl (at_map (by rw [hPl]; omega) 0)) (by omega))) fun a hF => ?_)
  refine wpList_stp (stp_gv hF (wanted_none rfl) rfl rfl (gv_conv_b_i rfl Tryd.underlying5 Tryd.underlying3 (hF.t rfl)) fun a hF => ?_)
  rw [q6] at hF
  refine wpList_stp (stp_gv hF (wanted_none rfl) rfl rfl (gv_assign rfl (hF.t rfl)) fun a hF => ?_)
  refine wpList_nil ?_
  refine then_normal (hKq27 _ _ ?_)
  refine wp_seq_k fun Kq28 hKq28 => ?_
  refine wp_seq_k fun Kq29 hKq29 => ?_
  -- region 28 (packet.go:138)
  refine wp_region_lit ?_
  refine wpList_stp (stp_gv hF (wanted_none rfl) rfl rfl (gv_move rfl (hF.t rfl)) fun a hF => ?_)
  refine wpList_stp (stp_gv hF (wanted_none rfl) rfl rfl (gv_lssF rfl (hF.t rfl) (ev_const _ _) (by omega)) fun a hF => ?_)
  refine wpList_stp (stp_gv hF (wanted_none rfl) rfl rfl (gv_move rfl (hF.t rfl)) fun a hF => ?_)
  refine wpList_stp (stp_gv hF (wanted_of hF rfl rfl (rfl)) rfl rfl (gv_move rfl (hF.t rfl)) fun a hF => ?_)
  refine wpList_stp (stp_gv hF (wanted_of hF rfl rfl (rfl)) rfl rfl (gv_len rfl Tryd.underlying22 (hF.t rfl)) fun a hF => ?_)
  refine wpList_stp (stp_gv hF (wanted_of hF rfl rfl (rfl)) rfl rfl (gv_nsub (n := 5) rfl (hF.t rfl) rfl (by omega) (by omega)) fun a hF => ?_)
  refine wpList_stp (stp_gv hF (wanted_of hF rfl rfl (rfl)) rfl rfl (gv_move rfl (hF.t rfl)) fun a hF => ?_)
  refine wpList_stp (stp_gv hF (wanted_of hF rfl rfl (rfl)) rfl rfl (gv_nsub rfl (hF.t rfl) (hF.t rfl) (by omega) (by omega)) fun a hF => ?_)
  refine wpList_stp (stp_gv hF (wanted_of hF rfl rfl (rfl)) rfl rfl (gv_lssF rfl (hF.t rfl) (ev_const _ _) (by omega)) fun a hF => ?_)
  refine wpList_stp (stp_gv hF (wanted_none rfl) rfl rfl (gv_pickF rfl (hF.t rfl) (hF.t rfl)) fun a hF => ?_)
  refine wpList_nil ?_
  refine then_normal (hKq29 _ _ ?_)
  refine wp_cond_false (hF.t rfl) ?_
  refine wp_skip ?_
  refine then_normal (hKq28 _ _ ?_)
  refine wp_seq_k fun Kq30 hKq30 => ?_
  -- region 30 (packet.go:141)
  refine wp_region_lit ?_
  refine wpList_stp (stp_gv hF (wanted_none rfl) rfl rfl (gv_move rfl (hF.t rfl)) fun a hF => ?_)
  refine wpList_stp (stp_gv hF (wanted_none rfl) rfl rfl (gv_nilCheck rfl (hF.t rfl)) fun a hF => ?_)
  refine wpList_stp (stp_gv hF (wanted_none rfl) rfl rfl (gv_field (r := 0) rfl Tryd.underlying47 rfl rfl Tryd.sz35 (by decide) (hF.t rfl)) fun a hF => ?_)
  refine wpList_stp (stp_gv hF (wanted_none rfl) rfl rfl (gv_field (r := 0) rfl Tryd.underlying35 rfl rfl Tryd.sz32 (by decide) (hF.t rfl)) fun a hF => ?_)
  refine wpList_stp (stp_gv hF (wanted_none rfl) rfl rfl (gv_load rfl Tryd.underlying32 rfl (hF.t rfl) (cell_ix (j := 0) (hS.cell (k := 4) rfl (rfl)) (by omega))) fun a hF => ?_)
  refine wpList_stp (stp_gv hF (wanted_none rfl) rfl rfl (gv_w_add (n := 1) rfl (hF.t rfl) rfl) fun a hF => ?_)
  refine wpList_stp (stp_gv hF (wanted_none rfl) rfl rfl (gv_nilCheck rfl (hF.t rfl)) fun a hF => ?_)
  refine wpList_stp (stp_gv hF (wanted_none rfl) rfl rfl (gv_field (r := 0) rfl Tryd.underlying47 rfl rfl Tryd.sz35 (by decide) (hF.t rfl)) fun a hF => ?_)
  refine wpList_stp (stp_gv hF (wanted_none rfl) rfl rfl (gv_field (r := 0) rfl Tryd.underlying35 rfl rfl Tryd.sz32 (by decide) (hF.t rfl)) fun a hF => ?_)
  refine wpList_stp (stp_storeAt (0) hF (wanted_none rfl) rfl rfl Tryd.sz32 (hF.t rfl) (by omega) (hF.t rfl) rfl hS (k := 4) rfl (by simp) fun w hS => ?_)
  refine wpList_nil ?_
  refine then_normal (hKq30 _ _ ?_)
  refine wp_seq_k fun Kq31 hKq31 => ?_
  -- region 31 (packet.go:142)
  refine wp_region_lit ?_
  refine wpList_stp (stp_gv hF (wanted_none rfl) rfl rfl (gv_move rfl (hF.t rfl)) fun a hF => ?_)
  refine wpList_stp (stp_gv hF (wanted_none rfl) rfl rfl (gv_nilCheck rfl (hF.t rfl)) fun a hF => ?_)
  refine wpList_stp (stp_gv hF (wanted_none rfl) rfl rfl (gv_field (r := 0) rfl Tryd.underlying47 rfl rfl Tryd.sz35 (by decide) (hF.t rfl)) fun a hF => ?_)
  refine wpList_stp (stp_gv hF (wanted_none rfl) rfl rfl (gv_field (r := 3) rfl Tryd.underlying35 rfl rfl Tryd.sz3 (by decide) (hF.t rfl)) fun a hF => ?_)
  refine wpList_stp (stp_gv hF (wanted_none rfl) rfl rfl (gv_load rfl Tryd.underlying3 rfl (hF.t rfl) (cell_ix (j := 3) (hS.cell (k := 4) rfl (rfl)) (by omega))) fun a hF => ?_)
  refine wpList_stp (stp_gv hF (wanted_none rfl) rfl rfl (gv_nadd (n := 1) rfl (hF.t rfl) rfl (by omega)) fun a hF => ?_)
  refine wpList_stp (stp_gv hF (wanted_none rfl) rfl rfl (gv_nilCheck rfl (hF.t rfl)) fun a hF => ?_)
  refine wpList_stp (stp_gv hF (wanted_none rfl) rfl rfl (gv_field (r := 0) rfl Tryd.underlying47 rfl rfl Tryd.sz35 (by decide) (hF.t rfl)) fun a hF => ?_)
  refine wpList_stp (stp_gv hF (wanted_none rfl) rfl rfl (gv_field (r := 3) rfl Tryd.underlying35 rfl rfl Tryd.sz3 (by decide) (hF.t rfl)) fun a hF => ?_)
  refine wpList_stp (stp_storeAt (3) hF (wanted_none rfl) rfl rfl Tryd.sz3 (hF.t rfl) (by omega) (hF.t rfl) rfl hS (k := 4) rfl (by simp) fun w hS => ?_)
  refine wpList_nil ?_
  refine then_normal (hKq31 _ _ ?_)
  refine wp_seq_k fun Kq32 hKq32 => ?_
  -- region 32 (packet.go:143)
  refine wp_region_lit ?_
  refine wpList_stp (stp_gv hF (wanted_none rfl) rfl rfl (gv_move rfl (hF.t rfl)) fun a hF => ?_)
  refine wpList_stp (stp_gv hF (wanted_none rfl) rfl rfl (gv_move rfl (hF.t rfl)) fun a hF => ?_)
  refine wpList_stp (stp_gv hF (wanted_none rfl) rfl rfl (gv_len rfl Tryd.underlying22 (hF.t rfl)) fun a hF => ?_)
  refine wpList_stp (stp_gv hF (wanted_none rfl) rfl rfl (gv_move rfl (hF.t rfl)) fun a hF => ?_)
  refine wpList_stp (stp_gv hF (wanted_none rfl) rfl rfl (gv_nsub rfl (hF.t rfl) (hF.t rfl) (by omega) (by omega)) fun a hF => ?_)
  refine wpList_stp (stp_gv hF (wanted_none rfl) rfl rfl (gv_move rfl (hF.t rfl)) fun a hF => ?_)
  refine wpList_stp (stp_gv hF (wanted_none rfl) rfl rfl (gv_len rfl Tryd.underlying22 (hF.t rfl)) fun a hF => ?_)
  refine wpList_stp (stp_gv hF (wanted_none rfl) rfl rfl (gv_move rfl (hF.t rfl)) fun a hF => ?_)
  refine wpList_stp (stp_gv hF (wanted_none rfl) rfl rfl (gv_nsub rfl (hF.t rfl) (hF.t rfl) (by omega) (by omega)) fun a hF => ?_)
  refine wpList_stp (stp_gv hF (wanted_none rfl) rfl rfl (gv_slice3 (l := 5) rfl Tryd.underlying22 Tryd.sz5 (hF.t rfl) rfl (hF.t rfl) (hF.t rfl) (by omega) (by omega) (by omega)) fun a hF => ?_)
  refine wpList_stp (stp_gv hF (wanted_none rfl) rfl rfl (gv_assign rfl (hF.t rfl)) fun a hF => ?_)
  refine wpList_stp (stp_gv hF (wanted_none rfl) rfl rfl (gv_assign rfl (ev_const _ _)) fun a hF => ?_)
  refine wpList_nil ?_
  refine then_normal (hKq32 _ _ ?_)
  refine wp_ret ?_
  refine ret2 (fn := Tryd.f17) (t := 2) (u := 3) hF rfl rfl rfl ?_
  replace hS := hS.move (k := 1) rfl
  replace hS := hS.move (k := 1) rfl
  replace hS := hS.move (k := 3) rfl
  replace hS := hS.move (k := 3) rfl
  replace hS := hS.move (k := 4) rfl
  exact ⟨hd2, hp2, g, gp, lv2, okb2, B2, rfl, go, gc, hdc2, hL2, hS⟩


end Go.Proofs.YtfhalnobaeogkaaDoor

/- What is proved: the contract of a packet.Writer with keys. -/
import Derived.Test.YtfhalnobaeogkaaDoorProg
import Derived.Test.YtfhalnobaeogkaaDoorFwSep
import Derived.KernelRfl
import Derived.Test.YtfhalnobaeogkaaDoorFwApp
import Derived.Test.YtfhalnobaeogkaaDoorFwWord
import Derived.Test.YtfhalnobaeogkaaDoorFwPkt
import Derived.Test.YtfhalnobaeogkaaDoorFwTok
import Derived.Test.YtfhalnobaeogkaaDoorFwFour
import Derived.Test.YtfhalnobaeogkaaDoorDig
import Derived.Test.YtfhalnobaeogkaaDoorSum
import Derived.Test.YtfhalnobaeogkaaDoorWire
import Derived.Test.YtfhalnobaeogkaaDoorPktW
import Derived.Test.YtfhalnobaeogkaaDoorLeaf
import Derived.Test.YtfhalnobaeogkaaDoorCip
import Derived.Test.YtfhalnobaeogkaaDoorMac
import Derived.Test.YtfhalnobaeogkaaDoorKey
set_option linter.unusedVariables false
set_option linter.unusedSimpArgs false
namespace Go.Proofs.YtfhalnobaeogkaaDoor
open Go Go.RowKit Go.Fw

theorem Tryd.ok46 : CallOk Tryd.prog 46 := ⟨_, Tryd.func46, by kernel_rfl, by kernel_rfl⟩
theorem Tryd.ok47 : CallOk Tryd.prog 47 := ⟨_, Tryd.func47, by kernel_rfl, by kernel_rfl⟩


theorem gen3 {α : Type} {l : List α} : ∃ T, T = l := ⟨_, rfl⟩
/-- A packet under keys. -/
def pktK (seq : UInt32) (pl dl K C L ml : List UInt8) : List UInt8 := outT K (C, L) (pktF seq pl dl 16) (pktF seq pl dl 16).length ++ codeF seq ml (pktF seq pl dl 16)
theorem pktK_len (seq : UInt32) (pl dl K C L ml : List UInt8) : (pktK seq pl dl K C L ml).length = 5 + pl.length + padn pl.length 16 + 32 := by
  rw [pktK, List.length_append, outT_len, pktF_len (by omega), codeF_len]
/-- What stands in every world of the region: the writer, the packet, what lies behind. -/
def stays (w00 : World) (E1 E2 : Ent) (T : List Ent) (w : World) : Prop := ∃ H, St w00 w H ∧ (∀ e ∈ H, e.nw = true) ∧ E1 ∈ H ∧ E2 ∈ H ∧ ∀ e ∈ T, e ∈ H
theorem stays.ext {w00 w w' : World} {E1 E2 : Ent} {T : List Ent} (h : stays w00 E1 E2 T w) (hx : Ext w w') : stays w00 E1 E2 T w' := by
  obtain ⟨H, h1, h2⟩ := h
  exact ⟨H, h1.ext hx, h2⟩
theorem stays.cell {w00 w : World} {E2 : Ent} {T : List Ent} {b i : Nat} {nw : Bool} {t : TypeId} {cs : List Value} {v : Value} (h : stays w00 ⟨nw, some b, blk t cs⟩ E2 T w) (hv : cs[i]? = some v) : w.cell? ⟨b, i, none⟩ = some v := by
  obtain ⟨H, h1, _, h3, _⟩ := h
  obtain ⟨k, hk⟩ := List.getElem?_of_mem h3
  exact h1.cell hk hv
theorem stays.rd {w00 w : World} {E1 E2 : Ent} {T : List Ent} {v : Value} {xs : List Value} (h : stays w00 E1 E2 T w) (hr : SRd w00 T v xs) : Rd w v xs := by
  obtain ⟨H, h1, h2, _, _, h5⟩ := h
  exact hr w H h1 h2 h5
theorem stays.rd2 {w00 w : World} {E1 E2 : Ent} {T : List Ent} {v : Value} {xs : List Value} (h : stays w00 E1 E2 T w) (hr : SRd w00 [E2] v xs) : Rd w v xs := by
  obtain ⟨H, h1, h2, _, h4, _⟩ := h
  exact hr w H h1 h2 fun e he => by obtain rfl := List.mem_singleton.1 he; exact h4


theorem write_len {b : Nat} {pv dv : Value} {pl : List UInt8} {w0 : World} (hPl : Rd w0 pv (pl.map vB)) (hbad : pl.length = 0 ∨ 2048 < pl.length) :
    Calls Tryd.prog 15 #[.pointer (some ⟨b, 0, none⟩), pv, dv] w0 fun e w' => e = .returned (.tuple #[.slice none 0 0, .int .i64 2]) ∧ Ext w0 w' := by
  obtain ⟨Ap, cp, hpv, hp1, hp2, _⟩ := hPl.isB
  subst hpv
  refine calls_start 105 Tryd.func15 rfl Tryd.ntmps15 rfl fun a hF => ?_
  refine wp_seq_k fun Kq1 hKq1 => ?_
  -- region 0 (packet.go:57)
  refine wp_region_lit ?_
  refine wpList_stp (stp_gv hF (wanted_none rfl) rfl rfl (gv_assign rfl (ev_const _ _)) fun a hF => ?_)
  refine wpList_stp (stp_gv hF (wanted_none rfl) rfl rfl (gv_assign rfl (ev_const _ _)) fun a hF => ?_)
  refine wpList_nil ?_
  refine then_normal (hKq1 _ _ ?_)
  refine wp_seq_k fun Kq2 hKq2 => ?_
  refine wp_seq_k fun Kq3 hKq3 => ?_
  -- region 1 (packet.go:58)
  refine wp_region_lit ?_
  refine wpList_stp (stp_gv hF (wanted_none rfl) rfl rfl (gv_move rfl (hF.t rfl)) fun a hF => ?_)
  refine wpList_stp (stp_gv hF (wanted_none rfl) rfl rfl (gv_eqlNil rfl Tryd.underlying24 (hF.t rfl) (ev_const _ _)) fun a hF => ?_)
  refine wpList_stp (stp_gv hF (wanted_none rfl) rfl rfl (gv_move rfl (hF.t rfl)) fun a hF => ?_)
  refine wpList_stp (stp_gv hF (wanted_of hF rfl rfl (rfl)) rfl rfl (gv_move rfl (hF.t rfl)) fun a hF => ?_)
  refine wpList_stp (stp_gv hF (wanted_of hF rfl rfl (rfl)) rfl rfl (gv_len rfl Tryd.underlying22 (hF.t rfl)) fun a hF => ?_)
  refine wpList_stp (stp_gv hF (wanted_of hF rfl rfl (rfl)) rfl rfl (gv_eql rfl (hF.t rfl) (ev_const _ _)) fun a hF => ?_)
  refine wpList_stp (stp_gv hF (wanted_none rfl) rfl rfl (gv_pickF rfl (hF.t rfl) (hF.t rfl)) fun a hF => ?_)
  refine wpList_stp (stp_gv hF (wanted_none rfl) rfl rfl (gv_move rfl (hF.t rfl)) fun a hF => ?_)
  refine wpList_stp (stp_gvG' hF rfl rfl rfl rfl rfl (fun hg => gv_move rfl (hF.t rfl)) fun a hF => ?_)
  refine wpList_stp (stp_gvG' hF rfl rfl rfl rfl rfl (fun hg => gv_len rfl Tryd.underlying22 ((hF.t rfl).trans (if_neg hg))) fun a hF => ?_)
  refine wpList_stp (stp_gvG' hF rfl rfl rfl rfl rfl (fun hg => gv_gtr rfl ((hF.t rfl).trans (if_neg hg)) (ev_const _ _)) fun a hF => ?_)
  refine wpList_stp (stp_gv hF (wanted_none rfl) rfl rfl (gv_pickOr rfl (hF.t rfl) (ev_const _ _) (hF.t rfl)) fun a hF => ?_)
  refine wpList_nil ?_
  refine then_normal (hKq3 _ _ ?_)
  refine cond_dec (hF.t rfl) (fun h24 => ?_) (fun h24 => ?_)
  ·
    refine wp_seq_k fun Kq4 hKq4 => ?_
    -- region 2 (packet.go:59)
    refine wp_region_lit ?_
    refine wpList_stp (stp_gv hF (wanted_none rfl) rfl rfl (gv_assign rfl (ev_const _ _)) fun a hF => ?_)
    refine wpList_stp (stp_gv hF (wanted_none rfl) rfl rfl (gv_assign rfl (ev_const _ _)) fun a hF => ?_)
    refine wpList_nil ?_
    refine then_normal (hKq4 _ _ ?_)
    refine wp_ret ?_
    refine then_ret ?_
    refine ret2 (fn := Tryd.f15) (t := 6) (u := 7) hF rfl rfl rfl ?_
    exact ⟨rfl, Ext.refl _⟩
  ·
    exfalso
    omega

set_option maxHeartbeats 1000000 in
theorem write1_ok {w00 w : World} {T0 : List Ent} {b n s : Nat} {seq : UInt32} {mac pv lv : Value} {pl dl K C L ml B : List UInt8} {okb : Option Nat} (hG : Glob w00) (hT0 : ∀ e ∈ T0, e.nw = true) (hS : St w00 w (⟨true, some b, wrt seq (.pointer (some ⟨s, 0, none⟩)) mac n⟩ :: ⟨true, some s, strm K (C) (lv)⟩ :: ⟨true, okb, blkB 129 B⟩ :: T0)) (hL : SRd w00 [⟨true, okb, blkB 129 B⟩] lv (L.map vB)) (hK : K.length = 176) (hC : C.length = 16) (hPl0 : SRd w00 T0 pv (pl.map vB)) (hM : SRd w00 T0 mac (ml.map vB)) (hml : ml.length = 32) (h1 : 1 ≤ pl.length) (h2 : pl.length ≤ 2048) (hd : dl.length ≤ 274877906944) (hn : n ≤ 4611686018427387904) :
    Calls Tryd.prog 15 #[.pointer (some ⟨b, 0, none⟩), pv, sV dl] w fun e w' => ∃ v lv1 okb1 B1, e = .returned (.tuple #[v, .int .i64 0]) ∧ ownP w00 5 (⟨true, some b, wrt (seq + 1) (.pointer (some ⟨s, 0, none⟩)) mac (n + 1)⟩ :: ⟨true, some s, strm K ((kst K (C, L) (pktF seq pl dl 16).length).1) (lv1)⟩ :: ⟨true, okb1, blkB 129 B1⟩ :: T0) (pktK seq pl dl K C L ml) v w' ∧ SRd w00 [⟨true, okb1, blkB 129 B1⟩] lv1 ((kst K (C, L) (pktF seq pl dl 16).length).2.map vB) := by
  obtain ⟨T, hTE⟩ : ∃ T : List Ent, T = ⟨true, some s, strm K (C) (lv)⟩ :: ⟨true, okb, blkB 129 B⟩ :: T0 := ⟨_, rfl⟩
  rw [← hTE] at hS
  have hT : ∀ e ∈ T, e.nw = true := by rw [hTE]; exact nw_cons rfl (nw_cons rfl hT0)
  have hPl : SRd w00 T pv (pl.map vB) := hPl0.mono fun e he => by rw [hTE]; exact List.mem_cons_of_mem _ (List.mem_cons_of_mem _ he)
  obtain ⟨Ap, cp, hpv, hp1, hp2, _⟩ := (hPl w _ hS (nw_cons rfl hT) (fun e he => List.mem_cons_of_mem _ he)).isB
  subst hpv
  refine calls_start 105 Tryd.func15 rfl Tryd.ntmps15 rfl fun a hF => ?_
  refine wp_seq_k fun Kq1 hKq1 => ?_
  -- region 0 (packet.go:57)
  refine wp_region_lit ?_
  refine wpList_stp (stp_gv hF (wanted_none rfl) rfl rfl (gv_assign rfl (ev_const _ _)) fun a hF => ?_)
  refine wpList_stp (stp_gv hF (wanted_none rfl) rfl rfl (gv_assign rfl (ev_const _ _)) fun a hF => ?_)
  refine wpList_nil ?_
  refine then_normal (hKq1 _ _ ?_)
  refine wp_seq_k fun Kq2 hKq2 => ?_
  refine wp_seq_k fun Kq3 hKq3 => ?_
  -- region 1 (packet.go:58)
  refine wp_region_lit ?_
  refine wpList_stp (stp_gv hF (wanted_none rfl) rfl rfl (gv_move rfl (hF.t rfl)) fun a hF => ?_)
  refine wpList_stp (stp_gv hF (wanted_none rfl) rfl rfl (gv_eqlNil rfl Tryd.underlying24 (hF.t rfl) (ev_const _ _)) fun a hF => ?_)
  refine wpList_stp (stp_gv hF (wanted_none rfl) rfl rfl (gv_move rfl (hF.t rfl)) fun a hF => ?_)
  refine wpList_stp (stp_gv hF (wanted_of hF rfl rfl (rfl)) rfl rfl (gv_move rfl (hF.t rfl)) fun a hF => ?_)
  refine wpList_stp (stp_gv hF (wanted_of hF rfl rfl (rfl)) rfl rfl (gv_len rfl Tryd.underlying22 (hF.t rfl)) fun a hF => ?_)
  refine wpList_stp (stp_gv hF (wanted_of hF rfl rfl (rfl)) rfl rfl (gv_eqlF rfl (hF.t rfl) (ev_const _ _) (by omega)) fun a hF => ?_)
  refine wpList_stp (stp_gv hF (wanted_none rfl) rfl rfl (gv_pickF rfl (hF.t rfl) (hF.t rfl)) fun a hF => ?_)
  refine wpList_stp (stp_gv hF (wanted_none rfl) rfl rfl (gv_move rfl (hF.t rfl)) fun a hF => ?_)
  refine wpList_stp (stp_gv hF (wanted_of hF rfl rfl (rfl)) rfl rfl (gv_move rfl (hF.t rfl)) fun a hF => ?_)
  refine wpList_stp (stp_gv hF (wanted_of hF rfl rfl (rfl)) rfl rfl (gv_len rfl Tryd.underlying22 (hF.t rfl)) fun a hF => ?_)
  refine wpList_stp (stp_gv hF (wanted_of hF rfl rfl (rfl)) rfl rfl (gv_gtrF rfl (hF.t rfl) (ev_const _ _) (by omega)) fun a hF => ?_)
  refine wpList_stp (stp_gv hF (wanted_none rfl) rfl rfl (gv_pickF rfl (hF.t rfl) (hF.t rfl)) fun a hF => ?_)
  refine wpList_nil ?_
  refine then_normal (hKq3 _ _ ?_)
  refine wp_cond_false (hF.t rfl) ?_
  refine wp_skip ?_
  refine then_normal (hKq2 _ _ ?_)
  refine wp_seq_k fun Kq4 hKq4 => ?_
  -- region 3 (packet.go:61)
  refine wp_region_lit ?_
  refine wpList_stp (stp_gv hF (wanted_none rfl) rfl rfl (gv_move rfl (hF.t rfl)) fun a hF => ?_)
  refine wpList_stp (stp_gv hF (wanted_none rfl) rfl rfl (gv_nilCheck rfl (hF.t rfl)) fun a hF => ?_)
  refine wpList_stp (stp_gv hF (wanted_none rfl) rfl rfl (gv_field (r := 0) rfl Tryd.underlying37 rfl rfl Tryd.sz35 (by decide) (hF.t rfl)) fun a hF => ?_)
  refine wpList_stp (stp_call hF (wanted_none rfl) rfl rfl Tryd.ok43 rfl (Evs.cons (hF.t rfl) Evs.nil) (blk1_ok (hS.cell (k := 0) (i := 1) (v := .pointer (some ⟨s, 0, none⟩)) rfl rfl)) fun e w h => ?_)
  obtain ⟨rfl, hx⟩ := h
  refine ⟨_, rfl, fun a hF => ?_⟩
  replace hS := hS.ext hx
  clear hx
  refine wpList_stp (stp_gv hF (wanted_none rfl) rfl rfl (gv_assign rfl (hF.t rfl)) fun a hF => ?_)
  refine wpList_nil ?_
  refine then_normal (hKq4 _ _ ?_)
  refine wp_seq_k fun Kq5 hKq5 => ?_
  -- region 4 (packet.go:62)
  refine wp_region_lit ?_
  refine wpList_stp (stp_gv hF (wanted_none rfl) rfl rfl (gv_move rfl (hF.t rfl)) fun a hF => ?_)
  refine wpList_stp (stp_gv hF (wanted_none rfl) rfl rfl (gv_move rfl (hF.t rfl)) fun a hF => ?_)
  refine wpList_stp (stp_gv hF (wanted_none rfl) rfl rfl (gv_len rfl Tryd.underlying22 (hF.t rfl)) fun a hF => ?_)
  refine wpList_stp (stp_gv hF (wanted_none rfl) rfl rfl (gv_nadd (m := 5) rfl rfl (hF.t rfl) (by omega)) fun a hF => ?_)
  refine wpList_stp (stp_gv hF (wanted_none rfl) rfl rfl (gv_move rfl (hF.t rfl)) fun a hF => ?_)
  refine wpList_stp (stp_gv hF (wanted_none rfl) rfl rfl (gv_nrem rfl (hF.t rfl) (hF.t rfl) (by omega)) fun a hF => ?_)
  refine wpList_stp (stp_gv hF (wanted_none rfl) rfl rfl (gv_nsub rfl (hF.t rfl) (hF.t rfl) (by omega) (by omega)) fun a hF => ?_)
  refine wpList_stp (stp_gv hF (wanted_none rfl) rfl rfl (gv_assign rfl (hF.t rfl)) fun a hF => ?_)
  refine wpList_nil ?_
  refine then_normal (hKq5 _ _ ?_)
  refine wp_cut (fun a w => Fr 105 a [(0, .pointer (some ⟨b, 0, none⟩)), (1, .slice Ap pl.length cp), (2, sV dl), (9, vI (padn pl.length 16))] ∧ St w00 w (⟨true, some b, wrt seq (.pointer (some ⟨s, 0, none⟩)) mac n⟩ :: T)) ?_ ?_
  ·
    refine wp_seq_k fun Kq6 hKq6 => ?_
    -- region 5 (packet.go:63)
    refine wp_region_lit ?_
    refine wpList_stp (stp_gv hF (wanted_none rfl) rfl rfl (gv_move rfl (hF.t rfl)) fun a hF => ?_)
    refine wpList_stp (stp_gv hF (wanted_none rfl) rfl rfl (gv_lss rfl (hF.t rfl) (ev_const _ _)) fun a hF => ?_)
    refine wpList_nil ?_
    refine then_normal (hKq6 _ _ ?_)
    refine cond_dec (hF.t rfl) (fun h37 => ?_) (fun h37 => ?_)
    ·
      -- region 6 (packet.go:64)
      refine wp_region_lit ?_
      refine wpList_stp (stp_gv hF (wanted_none rfl) rfl rfl (gv_move rfl (hF.t rfl)) fun a hF => ?_)
      refine wpList_stp (stp_gv hF (wanted_none rfl) rfl rfl (gv_move rfl (hF.t rfl)) fun a hF => ?_)
      refine wpList_stp (stp_gv hF (wanted_none rfl) rfl rfl (gv_nadd rfl (hF.t rfl) (hF.t rfl) (by omega)) fun a hF => ?_)
      refine wpList_stp (stp_gv hF (wanted_none rfl) rfl rfl (gv_assign rfl (hF.t rfl)) fun a hF => ?_)
      refine wpList_nil ?_
      refine then_normal ?_
      rw [padn_lo (show 16 - (5 + pl.length) % 16 < 4 by omega)] at hF
      exact ⟨hF.sub ⟨rfl, rfl, rfl, rfl, trivial⟩, hS⟩
    ·
      refine wp_skip ?_
      refine then_normal ?_
      rw [padn_hi (show ¬ 16 - (5 + pl.length) % 16 < 4 by omega)] at hF
      exact ⟨hF.sub ⟨rfl, rfl, rfl, rfl, trivial⟩, hS⟩
  · rintro a w ⟨hF, hS⟩
    obtain ⟨nn, hnnE⟩ : ∃ nn, nn = padn pl.length 16 := ⟨_, rfl⟩
    have hnn : nn ≤ 32 := by have := padn_le (n := pl.length) (u := 16); omega
    rw [← hnnE] at hF
    refine wp_seq_k fun Kq7 hKq7 => ?_
    -- region 7 (packet.go:66)
    refine wp_region_lit ?_
    refine wpList_stp (stp_gv hF (wanted_none rfl) rfl rfl (gv_move rfl (hF.t rfl)) fun a hF => ?_)
    refine wpList_stp (stp_gv hF (wanted_none rfl) rfl rfl (gv_move rfl (hF.t rfl)) fun a hF => ?_)
    refine wpList_stp (stp_gv hF (wanted_none rfl) rfl rfl (gv_nilCheck rfl (hF.t rfl)) fun a hF => ?_)
    refine wpList_stp (stp_gv hF (wanted_none rfl) rfl rfl (gv_field (r := 0) rfl Tryd.underlying37 rfl rfl Tryd.sz35 (by decide) (hF.t rfl)) fun a hF => ?_)
    refine wpList_stp (stp_gv hF (wanted_none rfl) rfl rfl (gv_field (r := 0) rfl Tryd.underlying35 rfl rfl Tryd.sz32 (by decide) (hF.t rfl)) fun a hF => ?_)
    refine wpList_stp (stp_gv hF (wanted_none rfl) rfl rfl (gv_load rfl Tryd.underlying32 rfl (hF.t rfl) (cell_ix (j := 0) (hS.cell (k := 0) rfl (rfl)) (by omega))) fun a hF => ?_)
    refine wpList_stp (stp_gv hF (wanted_none rfl) rfl rfl (gv_conv_w_d rfl Tryd.underlying32 Tryd.underlying76 (hF.t rfl)) fun a hF => ?_)
    refine wpList_stp (stp_call hF (wanted_none rfl) rfl rfl Tryd.ok44 rfl (Evs.cons (hF.t rfl) (Evs.cons (hF.t rfl) Evs.nil)) (draw_ok (hG.ext (hS.toExt (nw_cons rfl hT))) hd) fun e w h => ?_)
    obtain ⟨rfl, hx⟩ := h
    refine ⟨_, rfl, fun a hF => ?_⟩
    replace hS := hS.ext hx
    clear hx
    refine wpList_stp (stp_alloc hF (wanted_none rfl) rfl rfl rfl Tryd.zv94 rfl hS fun dd a w hF hS => ?_)
    refine wpList_stp (stp_storeAll hF (wanted_none rfl) rfl rfl (Tryd.sz94.trans (congrArg some (by rw [List.length_map, drawF_len]))) (hF.t rfl) (hF.t rfl) (one_B _) hS (k := 0) rfl (by rw [List.length_map, drawF_len]; rfl) fun w hS => ?_)
    obtain ⟨DD, hDD⟩ : ∃ DD, DD = drawF dl seq.toUInt64 := ⟨_, rfl⟩
    have hDl : DD.length = 32 := by rw [hDD]; exact drawF_len _ _
    rw [← hDD] at hS
    refine wpList_nil ?_
    refine then_normal (hKq7 _ _ ?_)
    refine wp_seq_k fun Kq8 hKq8 => ?_
    -- region 8 (packet.go:67)
    refine wp_region_lit ?_
    refine wpList_stp (stp_gv hF (wanted_none rfl) rfl rfl (gv_move rfl (hF.t rfl)) fun a hF => ?_)
    refine wpList_stp (stp_gv hF (wanted_none rfl) rfl rfl (gv_len rfl Tryd.underlying22 (hF.t rfl)) fun a hF => ?_)
    refine wpList_stp (stp_gv hF (wanted_none rfl) rfl rfl (gv_nadd (m := 1) rfl rfl (hF.t rfl) (by omega)) fun a hF => ?_)
    refine wpList_stp (stp_gv hF (wanted_none rfl) rfl rfl (gv_move rfl (hF.t rfl)) fun a hF => ?_)
    refine wpList_stp (stp_gv hF (wanted_none rfl) rfl rfl (gv_nadd rfl (hF.t rfl) (hF.t rfl) (by omega)) fun a hF => ?_)
    refine wpList_stp (stp_gv hF (wanted_none rfl) rfl rfl (gv_conv_i_w rfl Tryd.underlying3 Tryd.underlying32 (hF.t rfl)) fun a hF => ?_)
    replace hS := hS.addNil (blk 5 (([] : List UInt8).map vB ++ []))
    refine wpList_stp (stp_call hF (wanted_none rfl) rfl rfl Tryd.ok45 rfl (Evs.cons (ev_const _ _) (Evs.cons (hF.t rfl) Evs.nil)) (u32_ok (o := none) (l := []) (op := []) (nw_cons rfl (nw_cons rfl hT)) hS (fun _ => ⟨rfl, rfl⟩) (by simp) (by simp)) fun e w h => ?_)
    obtain ⟨p, pp, rfl, po, pc, hS⟩ := h
    simp only [List.nil_append] at hS po pc
    refine ⟨_, rfl, fun a hF => ?_⟩
    simp only [List.nil_append] at hF
    refine wpList_stp (stp_gv hF (wanted_none rfl) rfl rfl (gv_move rfl (hF.t rfl)) fun a hF => ?_)
    refine wpList_stp (stp_gv hF (wanted_none rfl) rfl rfl (gv_conv_i_b rfl Tryd.underlying3 Tryd.underlying5 (hF.t rfl)) fun a hF => ?_)
    refine wpList_stp (stp_build1 (v := _) hF (wanted_none rfl) rfl rfl rfl Tryd.underlying22 Tryd.ty5 (hF.t rfl) hS fun zb a w hF hS => ?_)
    refine wpList_stp (stp_app1 (k := 0) hF (wanted_none rfl) rfl rfl rfl Tryd.underlying22 Tryd.ty5 rfl (hF.t rfl) (hF.t rfl) hS rfl po pc (by rw [u32B_len]; omega) fun p pp a w hF po pc hS => ?_)
    refine wpList_stp (stp_gv hF (wanted_none rfl) rfl rfl (gv_assign rfl (hF.t rfl)) fun a hF => ?_)
    obtain ⟨P0, hP0⟩ : ∃ P0, P0 = u32B (UInt32.ofNat (1 + pl.length + nn)) ++ [UInt8.ofNat nn] := ⟨_, rfl⟩
    rw [← hP0] at hS po pc hF
    have hP0l : P0.length = 5 := by rw [hP0, List.length_append, u32B_len]; rfl
    refine wpList_nil ?_
    refine then_normal (hKq8 _ _ ?_)
    refine wp_seq_k fun Kq9 hKq9 => ?_
    -- region 9 (packet.go:68)
    refine Fw.wp_region_draw (by kernel_rfl) fun w hx => ?_
    replace hS := hS.ext hx
    clear hx
    refine run_headT (n := 6) _ [2, 5] (fun s_ w => s_ = 0 → St w00 w (⟨true, p, blk 5 (P0.map vB ++ pp)⟩ :: (⟨true, some dd, blkB 94 DD⟩ :: ⟨true, some b, wrt seq (.pointer (some ⟨s, 0, none⟩)) mac n⟩ :: T))) [(2, 62, fun s_ v w => 1 ≤ s_ ∧ (s_ = 1 → ownP w00 5 (⟨true, some dd, blkB 94 DD⟩ :: ⟨true, some b, wrt seq (.pointer (some ⟨s, 0, none⟩)) mac n⟩ :: T) (P0 ++ pl) v w)), (5, 65, fun s_ v w => s_ = 2 ∧ ownP w00 5 (⟨true, some dd, blkB 94 DD⟩ :: ⟨true, some b, wrt seq (.pointer (some ⟨s, 0, none⟩)) mac n⟩ :: T) (P0 ++ pl ++ DD.take nn) v w)] hF (hS.toExt (nw_cons rfl (nw_cons rfl (nw_cons rfl hT)))) (fun _ => hS) (fun _ _ _ h hx hs => (h hs).ext hx) (by kernel_rfl) rfl (fa_cons rfl (fa_cons rfl fa_nil)) (fa_cons (fun _ _ _ _ h hx => ⟨h.1, fun hs => (h.2 hs).ext hx⟩) (fa_cons (fun _ _ _ _ h hx => ⟨h.1, h.2.ext hx⟩) fa_nil)) (fa_cons ⟨Nat.zero_le _, Nat.le_of_ble_eq_true rfl⟩ (fa_cons ⟨Nat.zero_le _, Nat.le_of_ble_eq_true rfl⟩ fa_nil)) rfl (by kernel_rfl) ?_
    refine dw_gv hF rfl (wanted_none rfl) rfl rfl (fun w hx => gv_move rfl (hF.t rfl)) fun a hF => ?_
    refine dw_gv hF rfl (wanted_none rfl) rfl rfl (fun w hx => gv_move rfl (hF.t rfl)) fun a hF => ?_
    refine dw_fl rfl ?_
    refine dw_gv hF rfl (wanted_none rfl) rfl rfl (fun w hx => gv_move rfl (hF.t rfl)) fun a hF => ?_
    refine dw_gv hF rfl (wanted_none rfl) rfl rfl (fun w hx => gv_sliceArrHi rfl Tryd.underlying94 Tryd.sz5 (hF.t rfl) (hF.t rfl) hnn) fun a hF => ?_
    refine dw_fl rfl ?_
    refine dw_nil ⟨(fa_cons ?_ (fa_cons ?_ fa_nil)), fun a w hx hA hR hP => ?_⟩
    · intro s_ a w hsl hx hA hdp hP
      replace hF := hA _ hF
      refine ⟨_, rfl, .inr ⟨0, rfl, fun hs => ?_⟩⟩
      subst hs
      refine tx_appB (k := 0) (wanted_none rfl) rfl Tryd.underlying22 Tryd.ty5 rfl (hF.t rfl) (hF.t rfl) (hP rfl) rfl po pc (hPl _ _ (hP rfl) (nw_cons rfl (nw_cons rfl (nw_cons rfl hT))) (fun e he => List.mem_cons_of_mem _ (List.mem_cons_of_mem _ (List.mem_cons_of_mem _ he)))) (by omega) fun o op w' h2 h3 h4 => ?_
      exact ⟨(h4.toExt (nw_cons rfl (nw_cons rfl (nw_cons rfl hT)))), (fun h => by cases h), ⟨by omega, fun _ => ⟨o, op, rfl, h2, h3, h4⟩⟩, (fa_cons (fun h => absurd h.1 (by decide)) (fa_cons (fun h => absurd h.1 (by decide)) fa_nil))⟩
    · intro s_ a w hsl hx hA hdp hP
      replace hF := hA _ hF
      refine ⟨_, rfl, .inr ⟨1, rfl, fun hs => ?_⟩⟩
      subst hs
      obtain ⟨o, op, hv, po, pc, hS⟩ := ((hdp _ (List.mem_of_getElem? (i := 0) rfl) (by kernel_rfl))).2 rfl
      have hR : Rd w (.slice (some ⟨dd, 0, none⟩) nn 32) ((DD.take nn).map vB) := by
        rw [List.map_take]
        exact (SRd.cutHi (SRd.arr (w0 := w00) (T := [⟨true, some dd, blkB 94 DD⟩]) List.mem_cons_self hDl (by omega)) hnn) w _ hS (nw_cons rfl (nw_cons rfl (nw_cons rfl hT))) (by simp)
      have hTl : (DD.take nn).length = nn := by rw [List.length_take]; omega
      refine tx_appB (k := 0) (wanted_none rfl) rfl Tryd.underlying22 Tryd.ty5 rfl ((hF.t rfl).trans hv) (hF.t rfl) hS rfl po pc hR (by rw [List.length_append]; omega) fun o op w' h2 h3 h4 => ?_
      exact ⟨(h4.toExt (nw_cons rfl (nw_cons rfl (nw_cons rfl hT)))), (fun h => by cases h), ⟨rfl, ⟨o, op, rfl, h2, h3, h4⟩⟩, (fa_cons (fun h => ⟨by omega, fun h => by cases h⟩) (fa_cons (fun h => absurd h.1 (by decide)) fa_nil))⟩
    replace hF := hA _ hF
    clear hA
    clear hP
    obtain ⟨_, p, pp, hv, po, pc, hS⟩ := hR _ (List.mem_of_getElem? (i := 1) rfl)
    replace hF : Fr 105 a [(0, .pointer (some ⟨b, 0, none⟩)), (1, .slice Ap pl.length cp), (2, sV dl), (65, ownV p (P0 ++ pl ++ DD.take nn).length ((P0 ++ pl ++ DD.take nn).length + pp.length))] := hF.sub ⟨rfl, rfl, rfl, congrArg some hv, trivial⟩
    clear hv hR
    refine run_stp (by kernel_rfl) rfl (stp_gv hF (wanted_none rfl) rfl rfl (gv_assign rfl (hF.t rfl)) fun a hF => ?_)
    refine run_done (by decide) ?_
    refine then_normal (hKq9 _ _ ?_)
    refine wp_seq_k fun Kq10 hKq10 => ?_
    -- region 10 (packet.go:69)
    refine wp_region_lit ?_
    refine wpList_stp (stp_gv hF (wanted_none rfl) rfl rfl (gv_move rfl (hF.t rfl)) fun a hF => ?_)
    refine wpList_stp (stp_gv hF (wanted_none rfl) rfl rfl (gv_assign rfl (hF.t rfl)) fun a hF => ?_)
    refine wpList_nil ?_
    refine then_normal (hKq10 _ _ ?_)
    refine wp_seq_k fun Kq11 hKq11 => ?_
    refine wp_seq_k fun Kq12 hKq12 => ?_
    -- region 11 (packet.go:70)
    refine wp_region_lit ?_
    refine wpList_stp (stp_gv hF (wanted_none rfl) rfl rfl (gv_move rfl (hF.t rfl)) fun a hF => ?_)
    refine wpList_stp (stp_gv hF (wanted_none rfl) rfl rfl (gv_nilCheck rfl (hF.t rfl)) fun a hF => ?_)
    refine wpList_stp (stp_gv hF (wanted_none rfl) rfl rfl (gv_field (r := 0) rfl Tryd.underlying37 rfl rfl Tryd.sz35 (by decide) (hF.t rfl)) fun a hF => ?_)
    refine wpList_stp (stp_gv hF (wanted_none rfl) rfl rfl (gv_field (r := 1) rfl Tryd.underlying35 rfl rfl Tryd.sz33 (by decide) (hF.t rfl)) fun a hF => ?_)
    refine wpList_stp (stp_gv hF (wanted_none rfl) rfl rfl (gv_load rfl Tryd.underlying33 rfl (hF.t rfl) (cell_ix (j := 1) (hS.cell (k := 2) rfl (rfl)) (by omega))) fun a hF => ?_)
    refine wpList_stp (stp_gv hF (wanted_none rfl) rfl rfl (gv_neqNil rfl Tryd.underlying33 (hF.t rfl) (ev_const _ _)) fun a hF => ?_)
    refine wpList_nil ?_
    refine then_normal (hKq12 _ _ ?_)
    refine wp_cond_true (hF.t rfl) ?_
    -- region 12 (packet.go:71)
    refine Fw.wp_region_draw (by kernel_rfl) fun w hx => ?_
    replace hS := hS.ext hx
    rw [hTE] at hS
    replace hS := (hS.move (k := 4) rfl).move (k := 4) rfl
    simp only [List.eraseIdx_cons_succ, List.eraseIdx_cons_zero] at hS
    obtain ⟨PP, hPP⟩ : ∃ PP, PP = P0 ++ pl ++ DD.take nn := ⟨_, rfl⟩
    rw [← hPP] at hS hF po pc
    have hPPl : PP.length ≤ 4096 := by rw [hPP, List.length_append, List.length_append, List.length_take]; omega
    have hPF : PP = pktF seq pl dl 16 := by rw [hPP, pktF, ← hnnE, ← hDD, ← hP0]
    clear hx
    refine run_headT (n := 13) _ [6, 12] (fun s_ w => stays w00 (⟨true, some b, wrt seq (.pointer (some ⟨s, 0, none⟩)) mac n⟩ : Ent) (⟨true, p, blk 5 (PP.map vB ++ pp)⟩ : Ent) T0 w ∧ (s_ = 0 → St w00 w (⟨true, some s, strm K (C) (lv)⟩ :: ⟨true, okb, blkB 129 B⟩ :: ((⟨true, p, blk 5 (PP.map vB ++ pp)⟩ : Ent) :: ⟨true, some dd, blkB 94 DD⟩ :: (⟨true, some b, wrt seq (.pointer (some ⟨s, 0, none⟩)) mac n⟩ : Ent) :: T0)))) [(4, 77, FtE (.pointer (some ⟨s, 0, none⟩))), (6, 79, fun s_ v w => 1 ≤ s_ ∧ (s_ = 1 → ∃ lv1 okb1 B1, ownP w00 5 (⟨true, some s, strm K ((kst K (C, L) PP.length).1) (lv1)⟩ :: ⟨true, okb1, blkB 129 B1⟩ :: ((⟨true, p, blk 5 (PP.map vB ++ pp)⟩ : Ent) :: ⟨true, some dd, blkB 94 DD⟩ :: (⟨true, some b, wrt seq (.pointer (some ⟨s, 0, none⟩)) mac n⟩ : Ent) :: T0)) (outT K (C, L) PP PP.length) v w ∧ SRd w00 [⟨true, okb1, blkB 129 B1⟩] lv1 ((kst K (C, L) PP.length).2.map vB))), (11, 84, fun s_ v w => 1 ≤ s_ ∧ (s_ = 1 → Rd w v ((codeF seq ml PP).map vB))), (12, 85, fun s_ v w => s_ = 2 ∧ ∃ lv1 okb1 B1, ownP w00 5 (⟨true, some s, strm K ((kst K (C, L) PP.length).1) (lv1)⟩ :: ⟨true, okb1, blkB 129 B1⟩ :: ((⟨true, p, blk 5 (PP.map vB ++ pp)⟩ : Ent) :: ⟨true, some dd, blkB 94 DD⟩ :: (⟨true, some b, wrt seq (.pointer (some ⟨s, 0, none⟩)) mac n⟩ : Ent) :: T0)) (outT K (C, L) PP PP.length ++ codeF seq ml PP) v w ∧ SRd w00 [⟨true, okb1, blkB 129 B1⟩] lv1 ((kst K (C, L) PP.length).2.map vB))] hF (hS.toExt (nw_cons rfl (nw_cons rfl (nw_cons rfl (nw_cons rfl (nw_cons rfl hT0)))))) (⟨⟨_, hS, (nw_cons rfl (nw_cons rfl (nw_cons rfl (nw_cons rfl (nw_cons rfl hT0))))), (List.mem_of_getElem? (i := 4) rfl), (List.mem_of_getElem? (i := 2) rfl), (fun e he => List.mem_cons_of_mem _ (List.mem_cons_of_mem _ (List.mem_cons_of_mem _ (List.mem_cons_of_mem _ (List.mem_cons_of_mem _ (he))))))⟩, fun _ => hS⟩) (fun _ _ _ h hx => ⟨h.1.ext hx, fun hs => (h.2 hs).ext hx⟩) (by kernel_rfl) rfl (fa_cons rfl (fa_cons rfl (fa_cons rfl (fa_cons rfl fa_nil)))) (fa_cons (FtE.lasts _) (fa_cons (fun _ _ _ _ h hx => ⟨h.1, fun hs => by obtain ⟨a1, a2, a3, h1, h2⟩ := h.2 hs; exact ⟨a1, a2, a3, h1.ext hx, h2⟩⟩) (fa_cons (fun _ _ _ _ h hx => ⟨h.1, fun hs => (h.2 hs).ext hx⟩) (fa_cons (fun _ _ _ _ h hx => ⟨h.1, by obtain ⟨a1, a2, a3, h1, h2⟩ := h.2; exact ⟨a1, a2, a3, h1.ext hx, h2⟩⟩) fa_nil)))) (fa_cons ⟨Nat.zero_le _, Nat.le_of_ble_eq_true rfl⟩ (fa_cons ⟨Nat.zero_le _, Nat.le_of_ble_eq_true rfl⟩ (fa_cons ⟨Nat.zero_le _, Nat.le_of_ble_eq_true rfl⟩ (fa_cons ⟨Nat.zero_le _, Nat.le_of_ble_eq_true rfl⟩ fa_nil)))) rfl (by kernel_rfl) ?_
    refine dw_gv hF rfl (wanted_none rfl) rfl rfl (fun w hx => gv_move rfl (hF.t rfl)) fun a hF => ?_
    refine dw_gv hF rfl (wanted_none rfl) rfl rfl (fun w hx => gv_nilCheck rfl (hF.t rfl)) fun a hF => ?_
    refine dw_gv hF rfl (wanted_none rfl) rfl rfl (fun w hx => gv_field (r := 0) rfl Tryd.underlying37 rfl rfl Tryd.sz35 (by decide) (hF.t rfl)) fun a hF => ?_
    refine dw_gv hF rfl (wanted_none rfl) rfl rfl (fun w hx => gv_field (r := 1) rfl Tryd.underlying35 rfl rfl Tryd.sz33 (by decide) (hF.t rfl)) fun a hF => ?_
    refine dw_fl rfl ?_
    refine dw_gv hF rfl (wanted_none rfl) rfl rfl (fun w hx => gv_move rfl (hF.t rfl)) fun a hF => ?_
    refine dw_fl rfl ?_
    refine dw_gv hF rfl (wanted_none rfl) rfl rfl (fun w hx => gv_move rfl (hF.t rfl)) fun a hF => ?_
    refine dw_gv hF rfl (wanted_none rfl) rfl rfl (fun w hx => gv_nilCheck rfl (hF.t rfl)) fun a hF => ?_
    refine dw_gv hF rfl (wanted_none rfl) rfl rfl (fun w hx => gv_field (r := 0) rfl Tryd.underlying37 rfl rfl Tryd.sz35 (by decide) (hF.t rfl)) fun a hF => ?_
    refine dw_gv hF rfl (wanted_none rfl) rfl rfl (fun w hx => gv_move rfl (hF.t rfl)) fun a hF => ?_
    refine dw_fl rfl ?_
    refine dw_fl rfl ?_
    refine dw_nil ⟨(fa_cons ?_ (fa_cons ?_ (fa_cons ?_ (fa_cons ?_ fa_nil)))), fun a w hx hA hR hP => ?_⟩
    · intro s_ a w hsl hx hA hdp hP
      replace hF := hA _ hF
      exact ⟨_, rfl, .inl ⟨show (4 : Nat) ∉ [6, 12] from by decide, sx_gv (wanted_none rfl) (gv_load rfl Tryd.underlying33 rfl (hF.t rfl) (hP.1.cell (i := 1) rfl)) rfl⟩⟩
    · intro s_ a w hsl hx hA hdp hP
      replace hF := hA _ hF
      refine ⟨_, rfl, .inr ⟨0, rfl, fun hs => ?_⟩⟩
      subst hs
      refine tx_call (wanted_none rfl) Tryd.ok46 rfl (Evs.cons ((hF.t rfl).trans (hdp _ (List.mem_of_getElem? (i := 0) rfl) (by kernel_rfl))) (Evs.cons (hF.t rfl) Evs.nil)) ((turn_ok (bl := PP) (nw_cons rfl (nw_cons rfl (nw_cons rfl hT0))) (hP.2 rfl) hL (own_rd List.mem_cons_self po rfl pc) hK hC (by omega)).mono fun e w' h => ?_)
      obtain ⟨x, xp, lv1, okb1, B1, he, xo, xc, hS1, hL1⟩ := h
      refine ⟨_, he, hS1.toExt (nw_cons rfl (nw_cons rfl (nw_cons rfl (nw_cons rfl (nw_cons rfl (nw_cons rfl hT0)))))), ⟨⟨_, hS1, (nw_cons rfl (nw_cons rfl (nw_cons rfl (nw_cons rfl (nw_cons rfl (nw_cons rfl hT0)))))), (List.mem_of_getElem? (i := 5) rfl), (List.mem_of_getElem? (i := 3) rfl), (fun e he => List.mem_cons_of_mem _ (List.mem_cons_of_mem _ (List.mem_cons_of_mem _ (List.mem_cons_of_mem _ (List.mem_cons_of_mem _ (List.mem_cons_of_mem _ (he)))))))⟩, fun h => by cases h⟩, ⟨by omega, fun _ => ⟨lv1, okb1, B1, ⟨x, xp, ?_, ?_, ?_, hS1⟩, hL1⟩⟩, (fa_cons id (fa_cons (fun h => absurd h.1 (by decide)) (fa_cons (fun h => absurd h.1 (by decide)) (fa_cons (fun h => absurd h.1 (by decide)) fa_nil))))⟩
      · rw [outT_len]
      · intro h; have := xo h; exact ⟨List.length_eq_zero_iff.1 (by rw [outT_len, this.1]; rfl), this.2⟩
      · rw [outT_len]; exact xc
    · intro s_ a w hsl hx hA hdp hP
      replace hF := hA _ hF
      refine ⟨_, rfl, .inl ⟨show (11 : Nat) ∉ [6, 12] from by decide, sx_call (wanted_none rfl) Tryd.ok47 rfl (Evs.cons (hF.t rfl) (Evs.cons (hF.t rfl) Evs.nil)) ((code_ok (hG.ext ?_) (hP.1.cell (i := 0) rfl) (hP.1.cell (i := 2) rfl) (hP.1.rd hM) hml (hP.1.rd2 (own_rd List.mem_cons_self po rfl pc)) (by omega)).mono fun e w' h => ?_)⟩⟩
      · obtain ⟨HH, g1, g2, _⟩ := hP.1
        exact g1.toExt g2
      · obtain ⟨v, he, h1, h2⟩ := h
        exact ⟨v, he, ⟨((hdp _ (List.mem_of_getElem? (i := 1) rfl) (by kernel_rfl))).1, fun _ => h1⟩, h2⟩
    · intro s_ a w hsl hx hA hdp hP
      replace hF := hA _ hF
      refine ⟨_, rfl, .inr ⟨1, rfl, fun hs => ?_⟩⟩
      subst hs
      obtain ⟨lv1, okb1, B1, ⟨x, xp, hv, xo, xc, hS1⟩, hL1⟩ := ((hdp _ (List.mem_of_getElem? (i := 1) rfl) (by kernel_rfl))).2 rfl
      refine tx_appB (k := 0) (wanted_none rfl) rfl Tryd.underlying22 Tryd.ty5 rfl ((hF.t rfl).trans hv) (hF.t rfl) hS1 rfl xo xc (((hdp _ (List.mem_of_getElem? (i := 2) rfl) (by kernel_rfl))).2 rfl) (by rw [outT_len, codeF_len]; omega) fun o op w' h2 h3 h4 => ?_
      exact ⟨h4.toExt (nw_cons rfl (nw_cons rfl (nw_cons rfl (nw_cons rfl (nw_cons rfl (nw_cons rfl hT0)))))), ⟨⟨_, h4, (nw_cons rfl (nw_cons rfl (nw_cons rfl (nw_cons rfl (nw_cons rfl (nw_cons rfl hT0)))))), (List.mem_of_getElem? (i := 5) rfl), (List.mem_of_getElem? (i := 3) rfl), (fun e he => List.mem_cons_of_mem _ (List.mem_cons_of_mem _ (List.mem_cons_of_mem _ (List.mem_cons_of_mem _ (List.mem_cons_of_mem _ (List.mem_cons_of_mem _ (he)))))))⟩, fun h => by cases h⟩, ⟨rfl, lv1, okb1, B1, ⟨o, op, rfl, h2, h3, h4⟩, hL1⟩, (fa_cons id (fa_cons (fun _ => ⟨by omega, fun h => by cases h⟩) (fa_cons (fun _ => ⟨by omega, fun h => by cases h⟩) (fa_cons (fun h => absurd h.1 (by decide)) fa_nil))))⟩
    replace hF := hA _ hF
    clear hA
    clear hP
    obtain ⟨_, lv1, okb1, B1, ⟨x, xp, hv, xo, xc, hS⟩, hL1⟩ := hR _ (List.mem_of_getElem? (i := 3) rfl)
    replace hF : Fr 105 a [(0, .pointer (some ⟨b, 0, none⟩)), (1, .slice Ap pl.length cp), (2, sV dl), (85, ownV x (outT K (C, L) PP PP.length ++ codeF seq ml PP).length ((outT K (C, L) PP PP.length ++ codeF seq ml PP).length + xp.length))] := hF.sub ⟨rfl, rfl, rfl, congrArg some hv, trivial⟩
    clear hv hR
    refine run_stp (by kernel_rfl) rfl (stp_gv hF (wanted_none rfl) rfl rfl (gv_assign rfl (hF.t rfl)) fun a hF => ?_)
    refine run_done (by decide) ?_
    refine then_normal (hKq11 _ _ ?_)
    refine wp_seq_k fun Kq13 hKq13 => ?_
    -- region 13 (packet.go:73)
    refine wp_region_lit ?_
    refine wpList_stp (stp_gv hF (wanted_none rfl) rfl rfl (gv_move rfl (hF.t rfl)) fun a hF => ?_)
    refine wpList_stp (stp_gv hF (wanted_none rfl) rfl rfl (gv_nilCheck rfl (hF.t rfl)) fun a hF => ?_)
    refine wpList_stp (stp_gv hF (wanted_none rfl) rfl rfl (gv_field (r := 0) rfl Tryd.underlying37 rfl rfl Tryd.sz35 (by decide) (hF.t rfl)) fun a hF => ?_)
    refine wpList_stp (stp_gv hF (wanted_none rfl) rfl rfl (gv_field (r := 0) rfl Tryd.underlying35 rfl rfl Tryd.sz32 (by decide) (hF.t rfl)) fun a hF => ?_)
    refine wpList_stp (stp_gv hF (wanted_none rfl) rfl rfl (gv_load rfl Tryd.underlying32 rfl (hF.t rfl) (cell_ix (j := 0) (hS.cell (k := 5) rfl (rfl)) (by omega))) fun a hF => ?_)
    refine wpList_stp (stp_gv hF (wanted_none rfl) rfl rfl (gv_w_add (n := 1) rfl (hF.t rfl) rfl) fun a hF => ?_)
    refine wpList_stp (stp_gv hF (wanted_none rfl) rfl rfl (gv_nilCheck rfl (hF.t rfl)) fun a hF => ?_)
    refine wpList_stp (stp_gv hF (wanted_none rfl) rfl rfl (gv_field (r := 0) rfl Tryd.underlying37 rfl rfl Tryd.sz35 (by decide) (hF.t rfl)) fun a hF => ?_)
    refine wpList_stp (stp_gv hF (wanted_none rfl) rfl rfl (gv_field (r := 0) rfl Tryd.underlying35 rfl rfl Tryd.sz32 (by decide) (hF.t rfl)) fun a hF => ?_)
    refine wpList_stp (stp_storeAt (0) hF (wanted_none rfl) rfl rfl Tryd.sz32 (hF.t rfl) (by omega) (hF.t rfl) rfl hS (k := 5) rfl (by simp) fun w hS => ?_)
    refine wpList_nil ?_
    refine then_normal (hKq13 _ _ ?_)
    refine wp_seq_k fun Kq14 hKq14 => ?_
    -- region 14 (packet.go:74)
    refine wp_region_lit ?_
    refine wpList_stp (stp_gv hF (wanted_none rfl) rfl rfl (gv_move rfl (hF.t rfl)) fun a hF => ?_)
    refine wpList_stp (stp_gv hF (wanted_none rfl) rfl rfl (gv_nilCheck rfl (hF.t rfl)) fun a hF => ?_)
    refine wpList_stp (stp_gv hF (wanted_none rfl) rfl rfl (gv_field (r := 0) rfl Tryd.underlying37 rfl rfl Tryd.sz35 (by decide) (hF.t rfl)) fun a hF => ?_)
    refine wpList_stp (stp_gv hF (wanted_none rfl) rfl rfl (gv_field (r := 3) rfl Tryd.underlying35 rfl rfl Tryd.sz3 (by decide) (hF.t rfl)) fun a hF => ?_)
    refine wpList_stp (stp_gv hF (wanted_none rfl) rfl rfl (gv_load rfl Tryd.underlying3 rfl (hF.t rfl) (cell_ix (j := 3) (hS.cell (k := 5) rfl (rfl)) (by omega))) fun a hF => ?_)
    refine wpList_stp (stp_gv hF (wanted_none rfl) rfl rfl (gv_nadd (n := 1) rfl (hF.t rfl) rfl (by omega)) fun a hF => ?_)
    refine wpList_stp (stp_gv hF (wanted_none rfl) rfl rfl (gv_nilCheck rfl (hF.t rfl)) fun a hF => ?_)
    refine wpList_stp (stp_gv hF (wanted_none rfl) rfl rfl (gv_field (r := 0) rfl Tryd.underlying37 rfl rfl Tryd.sz35 (by decide) (hF.t rfl)) fun a hF => ?_)
    refine wpList_stp (stp_gv hF (wanted_none rfl) rfl rfl (gv_field (r := 3) rfl Tryd.underlying35 rfl rfl Tryd.sz3 (by decide) (hF.t rfl)) fun a hF => ?_)
    refine wpList_stp (stp_storeAt (3) hF (wanted_none rfl) rfl rfl Tryd.sz3 (hF.t rfl) (by omega) (hF.t rfl) rfl hS (k := 5) rfl (by simp) fun w hS => ?_)
    refine wpList_nil ?_
    refine then_normal (hKq14 _ _ ?_)
    refine wp_seq_k fun Kq15 hKq15 => ?_
    -- region 15 (packet.go:75)
    refine wp_region_lit ?_
    refine wpList_stp (stp_gv hF (wanted_none rfl) rfl rfl (gv_move rfl (hF.t rfl)) fun a hF => ?_)
    refine wpList_stp (stp_gv hF (wanted_none rfl) rfl rfl (gv_assign rfl (hF.t rfl)) fun a hF => ?_)
    refine wpList_stp (stp_gv hF (wanted_none rfl) rfl rfl (gv_assign rfl (ev_const _ _)) fun a hF => ?_)
    refine wpList_nil ?_
    refine then_normal (hKq15 _ _ ?_)
    refine wp_ret ?_
    refine ret2 (fn := Tryd.f15) (t := 6) (u := 7) hF rfl rfl rfl ?_
    replace hS := ((hS.move (k := 4) rfl).drop rfl)
    replace hS := ((hS.move (k := 3) rfl).drop rfl)
    replace hS := (hS.move (k := 3) rfl).move (k := 1) rfl
    exact ⟨_, lv1, okb1, B1, rfl, ⟨x, xp, by rw [pktK, ← hPF], by rw [pktK, ← hPF]; exact xo, by rw [pktK, ← hPF]; exact xc, by rw [pktK, ← hPF]; exact hS⟩, by rw [← hPF]; exact hL1⟩


end Go.Proofs.YtfhalnobaeogkaaDoor

/- What is proved: the contract of a packet.Writer without keys. -/
import Derived.Test.YtfhalnobaeogkaaDoorProg
import Derived.Test.YtfhalnobaeogkaaDoorFwSep
import Derived.KernelRfl
import Derived.Test.YtfhalnobaeogkaaDoorFwApp
import Derived.Test.YtfhalnobaeogkaaDoorFwWord
import Derived.Test.YtfhalnobaeogkaaDoorFwPkt
import Derived.Test.YtfhalnobaeogkaaDoorFwTok
import Derived.Test.YtfhalnobaeogkaaDoorDig
import Derived.Test.YtfhalnobaeogkaaDoorSum
import Derived.Test.YtfhalnobaeogkaaDoorWire
set_option linter.unusedVariables false
set_option linter.unusedSimpArgs false
namespace Go.Proofs.YtfhalnobaeogkaaDoor
open Go Go.RowKit Go.Fw

theorem Tryd.sz3 : (Tryd.prog.info? 3).map (·.size) = some 1 := by kernel_rfl
theorem Tryd.sz33 : (Tryd.prog.info? 33).map (·.size) = some 1 := by kernel_rfl
theorem Tryd.sz35 : (Tryd.prog.info? 35).map (·.size) = some 4 := by kernel_rfl
theorem Tryd.ok43 : CallOk Tryd.prog 43 := ⟨_, Tryd.func43, by kernel_rfl, by kernel_rfl⟩
theorem Tryd.ok44 : CallOk Tryd.prog 44 := ⟨_, Tryd.func44, by kernel_rfl, by kernel_rfl⟩
theorem Tryd.ok45 : CallOk Tryd.prog 45 := ⟨_, Tryd.func45, by kernel_rfl, by kernel_rfl⟩


abbrev wrt (seq : UInt32) (st mac : Value) (n : Nat) : Obj := blk 37 [vW seq, st, mac, vI n]
abbrev rdr (seq : UInt32) (st mac : Value) (n : Nat) (b head : Value) (bad : Bool) : Obj := blk 47 [vW seq, st, mac, vI n, b, head, .bool bad]
/-- The padding of a packet of n bytes of payload, in units of u. -/
def padn (n u : Nat) : Nat := if u - (5 + n) % u < 4 then u - (5 + n) % u + u else u - (5 + n) % u
theorem padn_lo {n u : Nat} (h : u - (5 + n) % u < 4) : u - (5 + n) % u + u = padn n u := by rw [padn, if_pos h]
theorem padn_hi {n u : Nat} (h : ¬ u - (5 + n) % u < 4) : u - (5 + n) % u = padn n u := by rw [padn, if_neg h]
theorem padn_le {n u : Nat} : padn n u ≤ u + 3 := by
  unfold padn; split <;> omega
/-- A packet in clear. -/
def pktF (seq : UInt32) (pl dl : List UInt8) (u : Nat) : List UInt8 := u32B (UInt32.ofNat (1 + pl.length + padn pl.length u)) ++ [UInt8.ofNat (padn pl.length u)] ++ pl ++ (drawF dl seq.toUInt64).take (padn pl.length u)
theorem pktF_len {seq : UInt32} {pl dl : List UInt8} {u : Nat} (h : u ≤ 29) : (pktF seq pl dl u).length = 5 + pl.length + padn pl.length u := by
  have := padn_le (n := pl.length) (u := u)
  simp only [pktF, List.length_append, u32B_len, List.length_take, drawF_len, List.length_cons, List.length_nil]
  omega


theorem blk0_ok {b : Nat} {w0 : World} (h : w0.cell? ⟨b, 1, none⟩ = some (.pointer none)) :
    Calls Tryd.prog 43 #[.pointer (some ⟨b, 0, none⟩)] w0 fun e w' => e = .returned (vI 8) ∧ Ext w0 w' := by
  refine calls_start 8 Tryd.func43 rfl Tryd.ntmps43 rfl fun a hF => ?_
  refine wp_seq_k fun Kq1 hKq1 => ?_
  -- region 0 (packet.go:46)
  refine wp_region_lit ?_
  refine wpList_stp (stp_gv hF (wanted_none rfl) rfl rfl (gv_assign rfl (ev_const _ _)) fun a hF => ?_)
  refine wpList_nil ?_
  refine then_normal (hKq1 _ _ ?_)
  refine wp_seq_k fun Kq2 hKq2 => ?_
  refine wp_seq_k fun Kq3 hKq3 => ?_
  -- region 1 (packet.go:47)
  refine wp_region_lit ?_
  refine wpList_stp (stp_gv hF (wanted_none rfl) rfl rfl (gv_move rfl (hF.t rfl)) fun a hF => ?_)
  refine wpList_stp (stp_gv hF (wanted_none rfl) rfl rfl (gv_nilCheck rfl (hF.t rfl)) fun a hF => ?_)
  refine wpList_stp (stp_gv hF (wanted_none rfl) rfl rfl (gv_field (r := 1) rfl Tryd.underlying35 rfl rfl Tryd.sz33 (by decide) (hF.t rfl)) fun a hF => ?_)
  refine wpList_stp (stp_gv hF (wanted_none rfl) rfl rfl (gv_load rfl Tryd.underlying33 rfl (hF.t rfl) h) fun a hF => ?_)
  refine wpList_stp (stp_gv hF (wanted_none rfl) rfl rfl (gv_eqlNil rfl Tryd.underlying33 (hF.t rfl) (ev_const _ _)) fun a hF => ?_)
  refine wpList_nil ?_
  refine then_normal (hKq3 _ _ ?_)
  refine wp_cond_true (hF.t rfl) ?_
  refine wp_seq_k fun Kq4 hKq4 => ?_
  -- region 2 (packet.go:48)
  refine wp_region_lit ?_
  refine wpList_stp (stp_gv hF (wanted_none rfl) rfl rfl (gv_assign rfl (ev_const _ _)) fun a hF => ?_)
  refine wpList_nil ?_
  refine then_normal (hKq4 _ _ ?_)
  refine wp_ret ?_
  refine then_ret ?_
  refine ret1 (fn := Tryd.f43) (t := 2) hF rfl rfl ?_
  exact ⟨rfl, Ext.refl _⟩

theorem blk1_ok {b : Nat} {ad : Addr} {w0 : World} (h : w0.cell? ⟨b, 1, none⟩ = some (.pointer (some ad))) :
    Calls Tryd.prog 43 #[.pointer (some ⟨b, 0, none⟩)] w0 fun e w' => e = .returned (vI 16) ∧ Ext w0 w' := by
  refine calls_start 8 Tryd.func43 rfl Tryd.ntmps43 rfl fun a hF => ?_
  refine wp_seq_k fun Kq1 hKq1 => ?_
  -- region 0 (packet.go:46)
  refine wp_region_lit ?_
  refine wpList_stp (stp_gv hF (wanted_none rfl) rfl rfl (gv_assign rfl (ev_const _ _)) fun a hF => ?_)
  refine wpList_nil ?_
  refine then_normal (hKq1 _ _ ?_)
  refine wp_seq_k fun Kq2 hKq2 => ?_
  refine wp_seq_k fun Kq3 hKq3 => ?_
  -- region 1 (packet.go:47)
  refine wp_region_lit ?_
  refine wpList_stp (stp_gv hF (wanted_none rfl) rfl rfl (gv_move rfl (hF.t rfl)) fun a hF => ?_)
  refine wpList_stp (stp_gv hF (wanted_none rfl) rfl rfl (gv_nilCheck rfl (hF.t rfl)) fun a hF => ?_)
  refine wpList_stp (stp_gv hF (wanted_none rfl) rfl rfl (gv_field (r := 1) rfl Tryd.underlying35 rfl rfl Tryd.sz33 (by decide) (hF.t rfl)) fun a hF => ?_)
  refine wpList_stp (stp_gv hF (wanted_none rfl) rfl rfl (gv_load rfl Tryd.underlying33 rfl (hF.t rfl) h) fun a hF => ?_)
  refine wpList_stp (stp_gv hF (wanted_none rfl) rfl rfl (gv_eqlNil rfl Tryd.underlying33 (hF.t rfl) (ev_const _ _)) fun a hF => ?_)
  refine wpList_nil ?_
  refine then_normal (hKq3 _ _ ?_)
  refine wp_cond_false (hF.t rfl) ?_
  refine wp_skip ?_
  refine then_normal (hKq2 _ _ ?_)
  refine wp_seq_k fun Kq4 hKq4 => ?_
  -- region 3 (packet.go:50)
  refine wp_region_lit ?_
  refine wpList_stp (stp_gv hF (wanted_none rfl) rfl rfl (gv_assign rfl (ev_const _ _)) fun a hF => ?_)
  refine wpList_nil ?_
  refine then_normal (hKq4 _ _ ?_)
  refine wp_ret ?_
  refine ret1 (fn := Tryd.f43) (t := 2) hF rfl rfl ?_
  exact ⟨rfl, Ext.refl _⟩

theorem num_ok {b : Nat} {s : UInt32} {w0 : World} (h : w0.cell? ⟨b, 0, none⟩ = some (vW s)) :
    Calls Tryd.prog 21 #[.pointer (some ⟨b, 0, none⟩)] w0 fun e w' => e = .returned (vW s) ∧ Ext w0 w' := by
  refine calls_start 7 Tryd.func21 rfl Tryd.ntmps21 rfl fun a hF => ?_
  refine wp_seq_k fun Kq1 hKq1 => ?_
  -- region 0 (packet.go:37)
  refine wp_region_lit ?_
  refine wpList_stp (stp_gv hF (wanted_none rfl) rfl rfl (gv_assign rfl (ev_const _ _)) fun a hF => ?_)
  refine wpList_nil ?_
  refine then_normal (hKq1 _ _ ?_)
  refine wp_seq_k fun Kq2 hKq2 => ?_
  -- region 1 (packet.go:37)
  refine wp_region_lit ?_
  refine wpList_stp (stp_gv hF (wanted_none rfl) rfl rfl (gv_move rfl (hF.t rfl)) fun a hF => ?_)
  refine wpList_stp (stp_gv hF (wanted_none rfl) rfl rfl (gv_nilCheck rfl (hF.t rfl)) fun a hF => ?_)
  refine wpList_stp (stp_gv hF (wanted_none rfl) rfl rfl (gv_field (r := 0) rfl Tryd.underlying35 rfl rfl Tryd.sz32 (by decide) (hF.t rfl)) fun a hF => ?_)
  refine wpList_stp (stp_gv hF (wanted_none rfl) rfl rfl (gv_load rfl Tryd.underlying32 rfl (hF.t rfl) h) fun a hF => ?_)
  refine wpList_stp (stp_gv hF (wanted_none rfl) rfl rfl (gv_assign rfl (hF.t rfl)) fun a hF => ?_)
  refine wpList_nil ?_
  refine then_normal (hKq2 _ _ ?_)
  refine wp_ret ?_
  refine ret1 (fn := Tryd.f21) (t := 2) hF rfl rfl ?_
  exact ⟨rfl, Ext.refl _⟩

theorem write_nil {pv dv : Value} {w0 : World} :
    Calls Tryd.prog 15 #[.pointer none, pv, dv] w0 fun e w' => e = .returned (.tuple #[.slice none 0 0, .int .i64 2]) ∧ Ext w0 w' := by
  refine calls_start 105 Tryd.func15 rfl Tryd.ntmps15 rfl fun a hF => ?_
  refine wp_seq_k fun Kq1 hKq1 => ?_
  -- region 0 (packet.go:57)
  refine wp_region_lit ?_
  refine wpList_stp (stp_gv hF (wanted_none rfl) rfl rfl (gv_assign rfl (ev_const _ _)) fun a hF => ?_)
  refine wpList_stp (stp_gv hF (wanted_none rfl) rfl rfl (gv_assign rfl (ev_const _ _)) fun a hF => ?_)
  refine wpList_nil ?_
  refine then_normal (hKq1 _ _ ?_)
  refine wp_seq_k fun Kq2 hKq2 => ?_
  refine wp_seq_k fun Kq3 hKq3 => ?_
  -- region 1 (packet.go:58)
  refine wp_region_lit ?_
  refine wpList_stp (stp_gv hF (wanted_none rfl) rfl rfl (gv_move rfl (hF.t rfl)) fun a hF => ?_)
  refine wpList_stp (stp_gv hF (wanted_none rfl) rfl rfl (gv_eqlNil rfl Tryd.underlying24 (hF.t rfl) (ev_const _ _)) fun a hF => ?_)
  refine wpList_stp (stp_gv hF (wanted_none rfl) rfl rfl (gv_move rfl (hF.t rfl)) fun a hF => ?_)
  refine wpList_stp (stp_skip hF (unwanted_of hF rfl rfl (rfl) rfl) rfl rfl fun a hF => ?_)
  refine wpList_stp (stp_skip hF (unwanted_of hF rfl rfl (rfl) rfl) rfl rfl fun a hF => ?_)
  refine wpList_stp (stp_skip hF (unwanted_of hF rfl rfl (rfl) rfl) rfl rfl fun a hF => ?_)
  refine wpList_stp (stp_gv hF (wanted_none rfl) rfl rfl (gv_pickT rfl (hF.t rfl) (ev_const _ _)) fun a hF => ?_)
  refine wpList_stp (stp_gv hF (wanted_none rfl) rfl rfl (gv_move rfl (hF.t rfl)) fun a hF => ?_)
  refine wpList_stp (stp_skip hF (unwanted_of hF rfl rfl (rfl) rfl) rfl rfl fun a hF => ?_)
  refine wpList_stp (stp_skip hF (unwanted_of hF rfl rfl (rfl) rfl) rfl rfl fun a hF => ?_)
  refine wpList_stp (stp_skip hF (unwanted_of hF rfl rfl (rfl) rfl) rfl rfl fun a hF => ?_)
  refine wpList_stp (stp_gv hF (wanted_none rfl) rfl rfl (gv_pickT rfl (hF.t rfl) (ev_const _ _)) fun a hF => ?_)
  refine wpList_nil ?_
  refine then_normal (hKq3 _ _ ?_)
  refine wp_cond_true (hF.t rfl) ?_
  refine wp_seq_k fun Kq4 hKq4 => ?_
  -- region 2 (packet.go:59)
  refine wp_region_lit ?_
  refine wpList_stp (stp_gv hF (wanted_none rfl) rfl rfl (gv_assign rfl (ev_const _ _)) fun a hF => ?_)
  refine wpList_stp (stp_gv hF (wanted_none rfl) rfl rfl (gv_assign rfl (ev_const _ _)) fun a hF => ?_)
  refine wpList_nil ?_
  refine then_normal (hKq4 _ _ ?_)
  refine wp_ret ?_
  refine then_ret ?_
  refine ret2 (fn := Tryd.f15) (t := 6) (u := 7) hF rfl rfl rfl ?_
  exact ⟨rfl, Ext.refl _⟩

theorem write0_ok {w00 w : World} {T : List Ent} {b n : Nat} {seq : UInt32} {mac pv : Value} {pl dl : List UInt8} (hG : Glob w00) (hT : ∀ e ∈ T, e.nw = true) (hS : St w00 w (⟨true, some b, wrt seq (.pointer none) mac n⟩ :: T)) (hPl : SRd w00 T pv (pl.map vB)) (h1 : 1 ≤ pl.length) (h2 : pl.length ≤ 2048) (hd : dl.length ≤ 274877906944) (hn : n ≤ 4611686018427387904) :
    Calls Tryd.prog 15 #[.pointer (some ⟨b, 0, none⟩), pv, sV dl] w fun e w' => ∃ v, e = .returned (.tuple #[v, .int .i64 0]) ∧ ∃ dd, ownP w00 5 (⟨true, some dd, blkB 94 (drawF dl seq.toUInt64)⟩ :: ⟨true, some b, wrt (seq + 1) (.pointer none) mac (n + 1)⟩ :: T) (pktF seq pl dl 8) v w' := by
  obtain ⟨Ap, cp, hpv, hp1, hp2, _⟩ := (hPl w _ hS (nw_cons rfl hT) (fun e he => List.mem_cons_of_mem _ he)).isB
  subst hpv
  refine calls_start 105 Tryd.func15 rfl Tryd.ntmps15 rfl fun a hF => ?_
  refine wp_seq_k fun Kq1 hKq1 => ?_
  -- region 0 (packet.go:57)
  refine wp_region_lit ?_
  refine wpList_stp (stp_gv hF (wanted_none rfl) rfl rfl (gv_assign rfl (ev_const _ _)) fun a hF => ?_)
  refine wpList_stp (stp_gv hF (wanted_none rfl) rfl rfl (gv_assign rfl (ev_const _ _)) fun a hF => ?_)
  refine wpList_nil ?_
  refine then_normal (hKq1 _ _ ?_)
  refine wp_seq_k fun Kq2 hKq2 => ?_
  refine wp_seq_k fun Kq3 hKq3 => ?_
  -- region 1 (packet.go:58)
  refine wp_region_lit ?_
  refine wpList_stp (stp_gv hF (wanted_none rfl) rfl rfl (gv_move rfl (hF.t rfl)) fun a hF => ?_)
  refine wpList_stp (stp_gv hF (wanted_none rfl) rfl rfl (gv_eqlNil rfl Tryd.underlying24 (hF.t rfl) (ev_const _ _)) fun a hF => ?_)
  refine wpList_stp (stp_gv hF (wanted_none rfl) rfl rfl (gv_move rfl (hF.t rfl)) fun a hF => ?_)
  refine wpList_stp (stp_gv hF (wanted_of hF rfl rfl (rfl)) rfl rfl (gv_move rfl (hF.t rfl)) fun a hF => ?_)
  refine wpList_stp (stp_gv hF (wanted_of hF rfl rfl (rfl)) rfl rfl (gv_len rfl Tryd.underlying22 (hF.t rfl)) fun a hF => ?_)
  refine wpList_stp (stp_gv hF (wanted_of hF rfl rfl (rfl)) rfl rfl (gv_eqlF rfl (hF.t rfl) (ev_const _ _) (by omega)) fun a hF => ?_)
  refine wpList_stp (stp_gv hF (wanted_none rfl) rfl rfl (gv_pickF rfl (hF.t rfl) (hF.t rfl)) fun a hF => ?_)
  refine wpList_stp (stp_gv hF (wanted_none rfl) rfl rfl (gv_move rfl (hF.t rfl)) fun a hF => ?_)
  refine wpList_stp (stp_gv hF (wanted_of hF rfl rfl (rfl)) rfl rfl (gv_move rfl (hF.t rfl)) fun a hF => ?_)
  refine wpList_stp (stp_gv hF (wanted_of hF rfl rfl (rfl)) rfl rfl (gv_len rfl Tryd.underlying22 (hF.t rfl)) fun a hF => ?_)
  refine wpList_stp (stp_gv hF (wanted_of hF rfl rfl (rfl)) rfl rfl (gv_gtrF rfl (hF.t rfl) (ev_const _ _) (by omega)) fun a hF => ?_)
  refine wpList_stp (stp_gv hF (wanted_none rfl) rfl rfl (gv_pickF rfl (hF.t rfl) (hF.t rfl)) fun a hF => ?_)
  refine wpList_nil ?_
  refine then_normal (hKq3 _ _ ?_)
  refine wp_cond_false (hF.t rfl) ?_
  refine wp_skip ?_
  refine then_normal (hKq2 _ _ ?_)
  refine wp_seq_k fun Kq4 hKq4 => ?_
  -- region 3 (packet.go:61)
  refine wp_region_lit ?_
  refine wpList_stp (stp_gv hF (wanted_none rfl) rfl rfl (gv_move rfl (hF.t rfl)) fun a hF => ?_)
  refine wpList_stp (stp_gv hF (wanted_none rfl) rfl rfl (gv_nilCheck rfl (hF.t rfl)) fun a hF => ?_)
  refine wpList_stp (stp_gv hF (wanted_none rfl) rfl rfl (gv_field (r := 0) rfl Tryd.underlying37 rfl rfl Tryd.sz35 (by decide) (hF.t rfl)) fun a hF => ?_)
  refine wpList_stp (stp_call hF (wanted_none rfl) rfl rfl Tryd.ok43 rfl (Evs.cons (hF.t rfl) Evs.nil) (blk0_ok (hS.cell (k := 0) (i := 1) (v := .pointer none) rfl rfl)) fun e w h => ?_)
  obtain ⟨rfl, hx⟩ := h
  refine ⟨_, rfl, fun a hF => ?_⟩
  replace hS := hS.ext hx
  clear hx
  refine wpList_stp (stp_gv hF (wanted_none rfl) rfl rfl (gv_assign rfl (hF.t rfl)) fun a hF => ?_)
  refine wpList_nil ?_
  refine then_normal (hKq4 _ _ ?_)
  refine wp_seq_k fun Kq5 hKq5 => ?_
  -- region 4 (packet.go:62)
  refine wp_region_lit ?_
  refine wpList_stp (stp_gv hF (wanted_none rfl) rfl rfl (gv_move rfl (hF.t rfl)) fun a hF => ?_)
  refine wpList_stp (stp_gv hF (wanted_none rfl) rfl rfl (gv_move rfl (hF.t rfl)) fun a hF => ?_)
  refine wpList_stp (stp_gv hF (wanted_none rfl) rfl rfl (gv_len rfl Tryd.underlying22 (hF.t rfl)) fun a hF => ?_)
  refine wpList_stp (stp_gv hF (wanted_none rfl) rfl rfl (gv_nadd (m := 5) rfl rfl (hF.t rfl) (by omega)) fun a hF => ?_)
  refine wpList_stp (stp_gv hF (wanted_none rfl) rfl rfl (gv_move rfl (hF.t rfl)) fun a hF => ?_)
  refine wpList_stp (stp_gv hF (wanted_none rfl) rfl rfl (gv_nrem rfl (hF.t rfl) (hF.t rfl) (by omega)) fun a hF => ?_)
  refine wpList_stp (stp_gv hF (wanted_none rfl) rfl rfl (gv_nsub rfl (hF.t rfl) (hF.t rfl) (by omega) (by omega)) fun a hF => ?_)
  refine wpList_stp (stp_gv hF (wanted_none rfl) rfl rfl (gv_assign rfl (hF.t rfl)) fun a hF => ?_)
  refine wpList_nil ?_
  refine then_normal (hKq5 _ _ ?_)
  refine wp_cut (fun a w => Fr 105 a [(0, .pointer (some ⟨b, 0, none⟩)), (1, .slice Ap pl.length cp), (2, sV dl), (9, vI (padn pl.length 8))] ∧ St w00 w (⟨true, some b, wrt seq (.pointer none) mac n⟩ :: T)) ?_ ?_
  ·
    refine wp_seq_k fun Kq6 hKq6 => ?_
    -- region 5 (packet.go:63)
    refine wp_region_lit ?_
    refine wpList_stp (stp_gv hF (wanted_none rfl) rfl rfl (gv_move rfl (hF.t rfl)) fun a hF => ?_)
    refine wpList_stp (stp_gv hF (wanted_none rfl) rfl rfl (gv_lss rfl (hF.t rfl) (ev_const _ _)) fun a hF => ?_)
    refine wpList_nil ?_
    refine then_normal (hKq6 _ _ ?_)
    refine cond_dec (hF.t rfl) (fun h37 => ?_) (fun h37 => ?_)
    ·
      -- region 6 (packet.go:64)
      refine wp_region_lit ?_
      refine wpList_stp (stp_gv hF (wanted_none rfl) rfl rfl (gv_move rfl (hF.t rfl)) fun a hF => ?_)
      refine wpList_stp (stp_gv hF (wanted_none rfl) rfl rfl (gv_move rfl (hF.t rfl)) fun a hF => ?_)
      refine wpList_stp (stp_gv hF (wanted_none rfl) rfl rfl (gv_nadd rfl (hF.t rfl) (hF.t rfl) (by omega)) fun a hF => ?_)
      refine wpList_stp (stp_gv hF (wanted_none rfl) rfl rfl (gv_assign rfl (hF.t rfl)) fun a hF => ?_)
      refine wpList_nil ?_
      refine then_normal ?_
      rw [padn_lo (show 8 - (5 + pl.length) % 8 < 4 by omega)] at hF
      exact ⟨hF.sub ⟨rfl, rfl, rfl, rfl, trivial⟩, hS⟩
    ·
      refine wp_skip ?_
      refine then_normal ?_
      rw [padn_hi (show ¬ 8 - (5 + pl.length) % 8 < 4 by omega)] at hF
      exact ⟨hF.sub ⟨rfl, rfl, rfl, rfl, trivial⟩, hS⟩
  · rintro a w ⟨hF, hS⟩
    obtain ⟨nn, hnnE⟩ : ∃ nn, nn = padn pl.length 8 := ⟨_, rfl⟩
    have hnn : nn ≤ 32 := by have := padn_le (n := pl.length) (u := 8); omega
    rw [← hnnE] at hF
    refine wp_seq_k fun Kq7 hKq7 => ?_
    -- region 7 (packet.go:66)
    refine wp_region_lit ?_
    refine wpList_stp (stp_gv hF (wanted_none rfl) rfl rfl (gv_move rfl (hF.t rfl)) fun a hF => ?_)
    refine wpList_stp (stp_gv hF (wanted_none rfl) rfl rfl (gv_move rfl (hF.t rfl)) fun a hF => ?_)
    refine wpList_stp (stp_gv hF (wanted_none rfl) rfl rfl (gv_nilCheck rfl (hF.t rfl)) fun a hF => ?_)
    refine wpList_stp (stp_gv hF (wanted_none rfl) rfl rfl (gv_field (r := 0) rfl Tryd.underlying37 rfl rfl Tryd.sz35 (by decide) (hF.t rfl)) fun a hF => ?_)
    refine wpList_stp (stp_gv hF (wanted_none rfl) rfl rfl (gv_field (r := 0) rfl Tryd.underlying35 rfl rfl Tryd.sz32 (by decide) (hF.t rfl)) fun a hF => ?_)
    refine wpList_stp (stp_gv hF (wanted_none rfl) rfl rfl (gv_load rfl Tryd.underlying32 rfl (hF.t rfl) (cell_ix (j := 0) (hS.cell (k := 0) rfl (rfl)) (by omega))) fun a hF => ?_)
    refine wpList_stp (stp_gv hF (wanted_none rfl) rfl rfl (gv_conv_w_d rfl Tryd.underlying32 Tryd.underlying76 (hF.t rfl)) fun a hF => ?_)
    refine wpList_stp (stp_call hF (wanted_none rfl) rfl rfl Tryd.ok44 rfl (Evs.cons (hF.t rfl) (Evs.cons (hF.t rfl) Evs.nil)) (draw_ok (hG.ext (hS.toExt (nw_cons rfl hT))) hd) fun e w h => ?_)
    obtain ⟨rfl, hx⟩ := h
    refine ⟨_, rfl, fun a hF => ?_⟩
    replace hS := hS.ext hx
    clear hx
    refine wpList_stp (stp_alloc hF (wanted_none rfl) rfl rfl rfl Tryd.zv94 rfl hS fun dd a w hF hS => ?_)
    refine wpList_stp (stp_storeAll hF (wanted_none rfl) rfl rfl (Tryd.sz94.trans (congrArg some (by rw [List.length_map, drawF_len]))) (hF.t rfl) (hF.t rfl) (one_B _) hS (k := 0) rfl (by rw [List.length_map, drawF_len]; rfl) fun w hS => ?_)
    obtain ⟨DD, hDD⟩ : ∃ DD, DD = drawF dl seq.toUInt64 := ⟨_, rfl⟩
    have hDl : DD.length = 32 := by rw [hDD]; exact drawF_len _ _
    rw [← hDD] at hS
    refine wpList_nil ?_
    refine then_normal (hKq7 _ _ ?_)
    refine wp_seq_k fun Kq8 hKq8 => ?_
    -- region 8 (packet.go:67)
    refine wp_region_lit ?_
    refine wpList_stp (stp_gv hF (wanted_none rfl) rfl rfl (gv_move rfl (hF.t rfl)) fun a hF => ?_)
    refine wpList_stp (stp_gv hF (wanted_none rfl) rfl rfl (gv_len rfl Tryd.underlying22 (hF.t rfl)) fun a hF => ?_)
    refine wpList_stp (stp_gv hF (wanted_none rfl) rfl rfl (gv_nadd (m := 1) rfl rfl (hF.t rfl) (by omega)) fun a hF => ?_)
    refine wpList_stp (stp_gv hF (wanted_none rfl) rfl rfl (gv_move rfl (hF.t rfl)) fun a hF => ?_)
    refine wpList_stp (stp_gv hF (wanted_none rfl) rfl rfl (gv_nadd rfl (hF.t rfl) (hF.t rfl) (by omega)) fun a hF => ?_)
    refine wpList_stp (stp_gv hF (wanted_none rfl) rfl rfl (gv_conv_i_w rfl Tryd.underlying3 Tryd.underlying32 (hF.t rfl)) fun a hF => ?_)
    replace hS := hS.addNil (blk 5 (([] : List UInt8).map vB ++ []))
    refine wpList_stp (stp_call hF (wanted_none rfl) rfl rfl Tryd.ok45 rfl (Evs.cons (ev_const _ _) (Evs.cons (hF.t rfl) Evs.nil)) (u32_ok (o := none) (l := []) (op := []) (nw_cons rfl (nw_cons rfl hT)) hS (fun _ => ⟨rfl, rfl⟩) (by simp) (by simp)) fun e w h => ?_)
    obtain ⟨p, pp, rfl, po, pc, hS⟩ := h
    simp only [List.nil_append] at hS po pc
    refine ⟨_, rfl, fun a hF => ?_⟩
    simp only [List.nil_append] at hF
    refine wpList_stp (stp_gv hF (wanted_none rfl) rfl rfl (gv_move rfl (hF.t rfl)) fun a hF => ?_)
    refine wpList_stp (stp_gv hF (wanted_none rfl) rfl rfl (gv_conv_i_b rfl Tryd.underlying3 Tryd.underlying5 (hF.t rfl)) fun a hF => ?_)
    refine wpList_stp (stp_build1 (v := _) hF (wanted_none rfl) rfl rfl rfl Tryd.underlying22 Tryd.ty5 (hF.t rfl) hS fun zb a w hF hS => ?_)
    refine wpList_stp (stp_app1 (k := 0) hF (wanted_none rfl) rfl rfl rfl Tryd.underlying22 Tryd.ty5 rfl (hF.t rfl) (hF.t rfl) hS rfl po pc (by rw [u32B_len]; omega) fun p pp a w hF po pc hS => ?_)
    refine wpList_stp (stp_gv hF (wanted_none rfl) rfl rfl (gv_assign rfl (hF.t rfl)) fun a hF => ?_)
    obtain ⟨P0, hP0⟩ : ∃ P0, P0 = u32B (UInt32.ofNat (1 + pl.length + nn)) ++ [UInt8.ofNat nn] := ⟨_, rfl⟩
    rw [← hP0] at hS po pc hF
    have hP0l : P0.length = 5 := by rw [hP0, List.length_append, u32B_len]; rfl
    refine wpList_nil ?_
    refine then_normal (hKq8 _ _ ?_)
    refine wp_seq_k fun Kq9 hKq9 => ?_
    -- region 9 (packet.go:68)
    refine Fw.wp_region_draw (by kernel_rfl) fun w hx => ?_
    replace hS := hS.ext hx
    clear hx
    refine run_headT (n := 6) _ [2, 5] (fun s_ w => s_ = 0 → St w00 w (⟨true, p, blk 5 (P0.map vB ++ pp)⟩ :: (⟨true, some dd, blkB 94 DD⟩ :: ⟨true, some b, wrt seq (.pointer none) mac n⟩ :: T))) [(2, 62, fun s_ v w => 1 ≤ s_ ∧ (s_ = 1 → ownP w00 5 (⟨true, some dd, blkB 94 DD⟩ :: ⟨true, some b, wrt seq (.pointer none) mac n⟩ :: T) (P0 ++ pl) v w)), (5, 65, fun s_ v w => s_ = 2 ∧ ownP w00 5 (⟨true, some dd, blkB 94 DD⟩ :: ⟨true, some b, wrt seq (.pointer none) mac n⟩ :: T) (P0 ++ pl ++ DD.take nn) v w)] hF (hS.toExt (nw_cons rfl (nw_cons rfl (nw_cons rfl hT)))) (fun _ => hS) (fun _ _ _ h hx hs => (h hs).ext hx) (by kernel_rfl) rfl (fa_cons rfl (fa_cons rfl fa_nil)) (fa_cons (fun _ _ _ _ h hx => ⟨h.1, fun hs => (h.2 hs).ext hx⟩) (fa_cons (fun _ _ _ _ h hx => ⟨h.1, h.2.ext hx⟩) fa_nil)) (fa_cons ⟨Nat.zero_le _, Nat.le_of_ble_eq_true rfl⟩ (fa_cons ⟨Nat.zero_le _, Nat.le_of_ble_eq_true rfl⟩ fa_nil)) rfl (by kernel_rfl) ?_
    refine dw_gv hF rfl (wanted_none rfl) rfl rfl (fun w hx => gv_move rfl (hF.t rfl)) fun a hF => ?_
    refine dw_gv hF rfl (wanted_none rfl) rfl rfl (fun w hx => gv_move rfl (hF.t rfl)) fun a hF => ?_
    refine dw_fl rfl ?_
    refine dw_gv hF rfl (wanted_none rfl) rfl rfl (fun w hx => gv_move rfl (hF.t rfl)) fun a hF => ?_
    refine dw_gv hF rfl (wanted_none rfl) rfl rfl (fun w hx => gv_sliceArrHi rfl Tryd.underlying94 Tryd.sz5 (hF.t rfl) (hF.t rfl) hnn) fun a hF => ?_
    refine dw_fl rfl ?_
    refine dw_nil ⟨(fa_cons ?_ (fa_cons ?_ fa_nil)), fun a w hx hA hR hP => ?_⟩
    · intro s_ a w hsl hx hA hdp hP
      replace hF := hA _ hF
      refine ⟨_, rfl, .inr ⟨0, rfl, fun hs => ?_⟩⟩
      subst hs
      refine tx_appB (k := 0) (wanted_none rfl) rfl Tryd.underlying22 Tryd.ty5 rfl (hF.t rfl) (hF.t rfl) (hP rfl) rfl po pc (hPl _ _ (hP rfl) (nw_cons rfl (nw_cons rfl (nw_cons rfl hT))) (fun e he => List.mem_cons_of_mem _ (List.mem_cons_of_mem _ (List.mem_cons_of_mem _ he)))) (by omega) fun o op w' h2 h3 h4 => ?_
      exact ⟨(h4.toExt (nw_cons rfl (nw_cons rfl (nw_cons rfl hT)))), (fun h => by cases h), ⟨by omega, fun _ => ⟨o, op, rfl, h2, h3, h4⟩⟩, (fa_cons (fun h => absurd h.1 (by decide)) (fa_cons (fun h => absurd h.1 (by decide)) fa_nil))⟩
    · intro s_ a w hsl hx hA hdp hP
      replace hF := hA _ hF
      refine ⟨_, rfl, .inr ⟨1, rfl, fun hs => ?_⟩⟩
      subst hs
      obtain ⟨o, op, hv, po, pc, hS⟩ := ((hdp _ (List.mem_of_getElem? (i := 0) rfl) (by kernel_rfl))).2 rfl
      have hR : Rd w (.slice (some ⟨dd, 0, none⟩) nn 32) ((DD.take nn).map vB) := by
        rw [List.map_take]
        exact (SRd.cutHi (SRd.arr (w0 := w00) (T := [⟨true, some dd, blkB 94 DD⟩]) List.mem_cons_self hDl (by omega)) hnn) w _ hS (nw_cons rfl (nw_cons rfl (nw_cons rfl hT))) (by simp)
      have hTl : (DD.take nn).length = nn := by rw [List.length_take]; omega
      refine tx_appB (k := 0) (wanted_none rfl) rfl Tryd.underlying22 Tryd.ty5 rfl ((hF.t rfl).trans hv) (hF.t rfl) hS rfl po pc hR (by rw [List.length_append]; omega) fun o op w' h2 h3 h4 => ?_
      exact ⟨(h4.toExt (nw_cons rfl (nw_cons rfl (nw_cons rfl hT)))), (fun h => by cases h), ⟨rfl, ⟨o, op, rfl, h2, h3, h4⟩⟩, (fa_cons (fun h => ⟨by omega, fun h => by cases h⟩) (fa_cons (fun h => absurd h.1 (by decide)) fa_nil))⟩
    replace hF := hA _ hF
    clear hA
    clear hP
    obtain ⟨_, p, pp, hv, po, pc, hS⟩ := hR _ (List.mem_of_getElem? (i := 1) rfl)
    replace hF : Fr 105 a [(0, .pointer (some ⟨b, 0, none⟩)), (1, .slice Ap pl.length cp), (2, sV dl), (65, ownV p (P0 ++ pl ++ DD.take nn).length ((P0 ++ pl ++ DD.take nn).length + pp.length))] := hF.sub ⟨rfl, rfl, rfl, congrArg some hv, trivial⟩
    clear hv hR
    refine run_stp (by kernel_rfl) rfl (stp_gv hF (wanted_none rfl) rfl rfl (gv_assign rfl (hF.t rfl)) fun a hF => ?_)
    refine run_done (by decide) ?_
    refine then_normal (hKq9 _ _ ?_)
    refine wp_seq_k fun Kq10 hKq10 => ?_
    -- region 10 (packet.go:69)
    refine wp_region_lit ?_
    refine wpList_stp (stp_gv hF (wanted_none rfl) rfl rfl (gv_move rfl (hF.t rfl)) fun a hF => ?_)
    refine wpList_stp (stp_gv hF (wanted_none rfl) rfl rfl (gv_assign rfl (hF.t rfl)) fun a hF => ?_)
    refine wpList_nil ?_
    refine then_normal (hKq10 _ _ ?_)
    refine wp_seq_k fun Kq11 hKq11 => ?_
    refine wp_seq_k fun Kq12 hKq12 => ?_
    -- region 11 (packet.go:70)
    refine wp_region_lit ?_
    refine wpList_stp (stp_gv hF (wanted_none rfl) rfl rfl (gv_move rfl (hF.t rfl)) fun a hF => ?_)
    refine wpList_stp (stp_gv hF (wanted_none rfl) rfl rfl (gv_nilCheck rfl (hF.t rfl)) fun a hF => ?_)
    refine wpList_stp (stp_gv hF (wanted_none rfl) rfl rfl (gv_field (r := 0) rfl Tryd.underlying37 rfl rfl Tryd.sz35 (by decide) (hF.t rfl)) fun a hF => ?_)
    refine wpList_stp (stp_gv hF (wanted_none rfl) rfl rfl (gv_field (r := 1) rfl Tryd.underlying35 rfl rfl Tryd.sz33 (by decide) (hF.t rfl)) fun a hF => ?_)
    refine wpList_stp (stp_gv hF (wanted_none rfl) rfl rfl (gv_load rfl Tryd.underlying33 rfl (hF.t rfl) (cell_ix (j := 1) (hS.cell (k := 2) rfl (rfl)) (by omega))) fun a hF => ?_)
    refine wpList_stp (stp_gv hF (wanted_none rfl) rfl rfl (gv_neqNil rfl Tryd.underlying33 (hF.t rfl) (ev_const _ _)) fun a hF => ?_)
    refine wpList_nil ?_
    refine then_normal (hKq12 _ _ ?_)
    refine wp_cond_false (hF.t rfl) ?_
    refine wp_skip ?_
    refine then_normal (hKq11 _ _ ?_)
    refine wp_seq_k fun Kq13 hKq13 => ?_
    -- region 13 (packet.go:73)
    refine wp_region_lit ?_
    refine wpList_stp (stp_gv hF (wanted_none rfl) rfl rfl (gv_move rfl (hF.t rfl)) fun a hF => ?_)
    refine wpList_stp (stp_gv hF (wanted_none rfl) rfl rfl (gv_nilCheck rfl (hF.t rfl)) fun a hF => ?_)
    refine wpList_stp (stp_gv hF (wanted_none rfl) rfl rfl (gv_field (r := 0) rfl Tryd.underlying37 rfl rfl Tryd.sz35 (by decide) (hF.t rfl)) fun a hF => ?_)
    refine wpList_stp (stp_gv hF (wanted_none rfl) rfl rfl (gv_field (r := 0) rfl Tryd.underlying35 rfl rfl Tryd.sz32 (by decide) (hF.t rfl)) fun a hF => ?_)
    refine wpList_stp (stp_gv hF (wanted_none rfl) rfl rfl (gv_load rfl Tryd.underlying32 rfl (hF.t rfl) (cell_ix (j := 0) (hS.cell (k := 2) rfl (rfl)) (by omega))) fun a hF => ?_)
    refine wpList_stp (stp_gv hF (wanted_none rfl) rfl rfl (gv_w_add (n := 1) rfl (hF.t rfl) rfl) fun a hF => ?_)
    refine wpList_stp (stp_gv hF (wanted_none rfl) rfl rfl (gv_nilCheck rfl (hF.t rfl)) fun a hF => ?_)
    refine wpList_stp (stp_gv hF (wanted_none rfl) rfl rfl (gv_field (r := 0) rfl Tryd.underlying37 rfl rfl Tryd.sz35 (by decide) (hF.t rfl)) fun a hF => ?_)
    refine wpList_stp (stp_gv hF (wanted_none rfl) rfl rfl (gv_field (r := 0) rfl Tryd.underlying35 rfl rfl Tryd.sz32 (by decide) (hF.t rfl)) fun a hF => ?_)
    refine wpList_stp (stp_storeAt (0) hF (wanted_none rfl) rfl rfl Tryd.sz32 (hF.t rfl) (by omega) (hF.t rfl) rfl hS (k := 2) rfl (by simp) fun w hS => ?_)
    refine wpList_nil ?_
    refine then_normal (hKq13 _ _ ?_)
    refine wp_seq_k fun Kq14 hKq14 => ?_
    -- region 14 (packet.go:74)
    refine wp_region_lit ?_
    refine wpList_stp (stp_gv hF (wanted_none rfl) rfl rfl (gv_move rfl (hF.t rfl)) fun a hF => ?_)
    refine wpList_stp (stp_gv hF (wanted_none rfl) rfl rfl (gv_nilCheck rfl (hF.t rfl)) fun a hF => ?_)
    refine wpList_stp (stp_gv hF (wanted_none rfl) rfl rfl (gv_field (r := 0) rfl Tryd.underlying37 rfl rfl Tryd.sz35 (by decide) (hF.t rfl)) fun a hF => ?_)
    refine wpList_stp (stp_gv hF (wanted_none rfl) rfl rfl (gv_field (r := 3) rfl Tryd.underlying35 rfl rfl Tryd.sz3 (by decide) (hF.t rfl)) fun a hF => ?_)
    refine wpList_stp (stp_gv hF (wanted_none rfl) rfl rfl (gv_load rfl Tryd.underlying3 rfl (hF.t rfl) (cell_ix (j := 3) (hS.cell (k := 2) rfl (rfl)) (by omega))) fun a hF => ?_)
    refine wpList_stp (stp_gv hF (wanted_none rfl) rfl rfl (gv_nadd (n := 1) rfl (hF.t rfl) rfl (by omega)) fun a hF => ?_)
    refine wpList_stp (stp_gv hF (wanted_none rfl) rfl rfl (gv_nilCheck rfl (hF.t rfl)) fun a hF => ?_)
    refine wpList_stp (stp_gv hF (wanted_none rfl) rfl rfl (gv_field (r := 0) rfl Tryd.underlying37 rfl rfl Tryd.sz35 (by decide) (hF.t rfl)) fun a hF => ?_)
    refine wpList_stp (stp_gv hF (wanted_none rfl) rfl rfl (gv_field (r := 3) rfl Tryd.underlying35 rfl rfl Tryd.sz3 (by decide) (hF.t rfl)) fun a hF => ?_)
    refine wpList_stp (stp_storeAt (3) hF (wanted_none rfl) rfl rfl Tryd.sz3 (hF.t rfl) (by omega) (hF.t rfl) rfl hS (k := 2) rfl (by simp) fun w hS => ?_)
    refine wpList_nil ?_
    refine then_normal (hKq14 _ _ ?_)
    refine wp_seq_k fun Kq15 hKq15 => ?_
    -- region 15 (packet.go:75)
    refine wp_region_lit ?_
    refine wpList_stp (stp_gv hF (wanted_none rfl) rfl rfl (gv_move rfl (hF.t rfl)) fun a hF => ?_)
    refine wpList_stp (stp_gv hF (wanted_none rfl) rfl rfl (gv_assign rfl (hF.t rfl)) fun a hF => ?_)
    refine wpList_stp (stp_gv hF (wanted_none rfl) rfl rfl (gv_assign rfl (ev_const _ _)) fun a hF => ?_)
    refine wpList_nil ?_
    refine then_normal (hKq15 _ _ ?_)
    refine wp_ret ?_
    refine ret2 (fn := Tryd.f15) (t := 6) (u := 7) hF rfl rfl rfl ?_
    exact ⟨_, rfl, dd, p, pp, by rw [pktF, ← hnnE, ← hDD, ← hP0], by rw [pktF, ← hnnE, ← hDD, ← hP0]; exact po, by rw [pktF, ← hnnE, ← hDD, ← hP0]; exact pc, by rw [pktF, ← hnnE, ← hDD, ← hP0]; exact hS⟩


end Go.Proofs.YtfhalnobaeogkaaDoor

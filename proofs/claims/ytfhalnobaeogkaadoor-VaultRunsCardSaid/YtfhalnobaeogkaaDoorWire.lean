/- What is proved: the contracts of digest.Draw, wire.U32, wire.From, and of a wire.Reader where there is enough. -/
import Derived.Test.YtfhalnobaeogkaaDoorProg
import Derived.Test.YtfhalnobaeogkaaDoorFwSep
import Derived.KernelRfl
import Derived.Test.YtfhalnobaeogkaaDoorFwApp
import Derived.Test.YtfhalnobaeogkaaDoorFwWord
import Derived.Test.YtfhalnobaeogkaaDoorFwPkt
import Derived.Test.YtfhalnobaeogkaaDoorDig
import Derived.Test.YtfhalnobaeogkaaDoorSum
set_option linter.unusedVariables false
set_option linter.unusedSimpArgs false
namespace Go.Proofs.YtfhalnobaeogkaaDoor
open Go Go.RowKit Go.Fw

theorem Tryd.sz4 : (Tryd.prog.info? 4).map (·.size) = some 1 := by kernel_rfl
theorem Tryd.sz22 : (Tryd.prog.info? 22).map (·.size) = some 1 := by kernel_rfl
theorem Tryd.zv135 : (Tryd.prog.info? 135).map (·.zero) = some (some (Value.agg ([Value.slice none 0 0] ++ [Value.bool false]).toArray)) := by kernel_rfl
theorem Tryd.ok65 : CallOk Tryd.prog 65 := ⟨_, Tryd.func65, by kernel_rfl, by kernel_rfl⟩
theorem Tryd.ok68 : CallOk Tryd.prog 68 := ⟨_, Tryd.func68, by kernel_rfl, by kernel_rfl⟩


def be8 (n : UInt64) : Nat → List UInt8
  | 0 => []
  | q + 1 => be8 n q ++ [(n >>> UInt64.ofNat (8 * (7 - q))).toUInt8]
theorem be8_len (n : UInt64) : ∀ q, (be8 n q).length = q
  | 0 => rfl
  | q + 1 => by rw [be8, List.length_append, be8_len n q]; rfl
def d1 (sl : List UInt8) (n : UInt64) (q : Nat) : List UInt8 := sl ++ be8 n q
theorem d1_zero (sl : List UInt8) (n : UInt64) : sl = d1 sl n 0 := by simp [d1, be8]
theorem d1_succ (sl : List UInt8) (n : UInt64) (q j : Nat) (h : j = 7 - q) : d1 sl n q ++ [(n >>> UInt64.ofNat (8 * j)).toUInt8] = d1 sl n (q + 1) := by rw [d1, d1, List.append_assoc, be8, h]
theorem d1_len (sl : List UInt8) (n : UInt64) (q : Nat) : (d1 sl n q).length = sl.length + q := by simp [d1, be8_len]
def drawF (sl : List UInt8) (n : UInt64) : List UInt8 := sum256 (d1 sl n 8)
theorem drawF_len (sl : List UInt8) (n : UInt64) : (drawF sl n).length = 32 := sum256_len _


theorem draw_ok {sl : List UInt8} {n : UInt64} {w0 : World} (hG : Glob w0) (hn : sl.length ≤ 274877906944) :
    Calls Tryd.prog 44 #[sV sl, vD n] w0 fun e w' => e = .returned (.agg ((drawF sl n).map vB).toArray) ∧ Ext w0 w' := by
  refine calls_start 23 Tryd.func44 rfl Tryd.ntmps44 rfl fun a hF => ?_
  have hS := St.refl w0
  refine wp_seq_k fun Kq1 hKq1 => ?_
  -- region 0 (digest.go:140)
  refine wp_region_lit ?_
  refine wpList_stp (stp_alloc hF (wanted_none rfl) rfl rfl rfl Tryd.zv94 rfl hS fun out a w hF hS => ?_)
  refine wpList_nil ?_
  refine then_normal (hKq1 _ _ ?_)
  refine wp_seq_k fun Kq2 hKq2 => ?_
  -- region 1 (digest.go:141)
  refine wp_region_lit ?_
  refine wpList_stp (stp_gv hF (wanted_none rfl) rfl rfl (gv_move rfl (hF.t rfl)) fun a hF => ?_)
  refine wpList_stp (stp_strBytes hF (wanted_none rfl) rfl rfl rfl Tryd.underlying9 Tryd.underlying22 Tryd.underlying5 (hF.t rfl) (by omega) hS fun b bp a w hF bc hS => ?_)
  refine wpList_stp (stp_gv hF (wanted_none rfl) rfl rfl (gv_assign rfl (hF.t rfl)) fun a hF => ?_)
  refine wpList_nil ?_
  refine then_normal (hKq2 _ _ ?_)
  refine wp_seq_k fun Kq3 hKq3 => ?_
  refine wp_seq_k fun Kq4 hKq4 => ?_
  -- region 2 (digest.go:142)
  refine wp_region_lit ?_
  refine wpList_stp (stp_gv hF (wanted_none rfl) rfl rfl (gv_assign rfl (ev_const _ _)) fun a hF => ?_)
  refine wpList_nil ?_
  refine then_normal (hKq4 _ _ ?_)
  refine wp_block ?_
  rw [d1_zero sl n] at hS
  have hl0 := d1_len sl n 0
  refine wp_loop_n (fun q1 a w => ∃ (q j : Nat) (f : Bool) (b : Nat) (bp : List Value), q + j = 8 ∧ q1 = j ∧ (d1 sl n q).length + bp.length ≤ 9223372036854775807 ∧ Fr 23 a [(1, vD n), (4, .pointer (some ⟨out, 0, none⟩)), (5, .slice (some ⟨b, 0, none⟩) (d1 sl n q).length ((d1 sl n q).length + bp.length)), (6, dctr j)] ∧ St w0 w [⟨true, some b, blkX f 5 ((d1 sl n q).map vB ++ bp)⟩, ⟨true, some out, blkB 94 (List.replicate 32 0)⟩]) 8 ⟨0, 8, true, b, bp, rfl, rfl, by rw [hl0]; exact bc, by rw [hl0]; exact hF.sub ⟨rfl, rfl, rfl, rfl, trivial⟩, hS⟩ ?_
  rintro q1 a w ⟨q, j, f, b, bp, hqj, hn1, bc, hF, hS⟩
  have hzl := d1_len sl n q
  refine wp_seq_k fun Kq5 hKq5 => ?_
  refine wp_seq_k fun Kq6 hKq6 => ?_
  -- region 3 (digest.go:142)
  refine wp_region_lit ?_
  refine wpList_stp (stp_gv hF (wanted_none rfl) rfl rfl (gv_move rfl (hF.t rfl)) fun a hF => ?_)
  refine wpList_stp (stp_gv hF (wanted_none rfl) rfl rfl (gv_geq rfl (hF.t rfl) (ev_const _ _)) fun a hF => ?_)
  refine wpList_nil ?_
  refine then_normal (hKq6 _ _ ?_)
  refine cond_dec (hF.t rfl) (fun h10 => ?_) (fun h10 => ?_)
  ·
    obtain ⟨j, rfl⟩ : ∃ i, j = i + 1 := ⟨j - 1, by omega⟩
    replace hF : Fr 23 a [(1, vD n), (4, .pointer (some ⟨out, 0, none⟩)), (5, .slice (some ⟨b, 0, none⟩) (d1 sl n q).length ((d1 sl n q).length + bp.length)), (6, vI j)] := hF.sub ⟨rfl, rfl, rfl, congrArg some (dctr_succ j), trivial⟩
    refine wp_skip ?_
    refine then_normal (hKq5 _ _ ?_)
    refine wp_seq_k fun Kq7 hKq7 => ?_
    refine wp_block ?_
    -- region 5 (digest.go:143)
    refine wp_region_lit ?_
    refine wpList_stp (stp_gv hF (wanted_none rfl) rfl rfl (gv_move rfl (hF.t rfl)) fun a hF => ?_)
    refine wpList_stp (stp_gv hF (wanted_none rfl) rfl rfl (gv_move rfl (hF.t rfl)) fun a hF => ?_)
    refine wpList_stp (stp_gv hF (wanted_none rfl) rfl rfl (gv_move rfl (hF.t rfl)) fun a hF => ?_)
    refine wpList_stp (stp_gv hF (wanted_none rfl) rfl rfl (gv_nmul (m := 8) rfl rfl (hF.t rfl) (by omega)) fun a hF => ?_)
    refine wpList_stp (stp_gv hF (wanted_none rfl) rfl rfl (gv_d_shr rfl (hF.t rfl) (hF.t rfl) (by omega)) fun a hF => ?_)
    refine wpList_stp (stp_gv hF (wanted_none rfl) rfl rfl (gv_conv_d_b rfl Tryd.underlying76 Tryd.underlying5 (hF.t rfl)) fun a hF => ?_)
    refine wpList_stp (stp_build1 (v := _) hF (wanted_none rfl) rfl rfl rfl Tryd.underlying22 Tryd.ty5 (hF.t rfl) hS fun zb a w hF hS => ?_)
    refine wpList_stp (stp_app1X (k := 0) hF (wanted_none rfl) rfl rfl rfl Tryd.underlying22 Tryd.ty5 rfl (hF.t rfl) (hF.t rfl) hS rfl bc (by omega) fun f b bp a w hF bc hS => ?_)
    refine wpList_stp (stp_gv hF (wanted_none rfl) rfl rfl (gv_assign rfl (hF.t rfl)) fun a hF => ?_)
    refine wpList_nil ?_
    refine block_normal ?_
    refine then_normal (hKq7 _ _ ?_)
    -- region 4 (digest.go:142)
    refine wp_region_lit ?_
    refine wpList_stp (stp_gv hF (wanted_none rfl) rfl rfl (gv_move rfl (hF.t rfl)) fun a hF => ?_)
    refine wpList_stp (stp_gv hF (wanted_none rfl) rfl rfl (gv_sub rfl (hF.t rfl) (ev_const _ _) (by omega) (by omega)) fun a hF => ?_)
    refine wpList_stp (stp_gv hF (wanted_none rfl) rfl rfl (gv_assign rfl (hF.t rfl)) fun a hF => ?_)
    refine wpList_nil ?_
    refine then_normal ?_
    rw [d1_succ _ _ _ _ (show j = 7 - q by omega)] at hF bc hS
    exact ⟨q1 - 1, by omega, q + 1, j, f, b, bp, by omega, by omega, bc, hF.sub ⟨rfl, rfl, rfl, rfl, trivial⟩, hS⟩
  ·
    refine wp_exit ?_
    refine then_exit ?_
    refine then_exit ?_
    refine block_exit ?_
    refine then_normal (hKq3 _ _ ?_)
    refine wp_seq_k fun Kq8 hKq8 => ?_
    obtain rfl : j = 0 := by omega
    obtain rfl : q = 8 := by omega
    -- region 6 (digest.go:145)
    refine wp_region_lit ?_
    refine wpList_stp (stp_gv hF (wanted_none rfl) rfl rfl (gv_move rfl (hF.t rfl)) fun a hF => ?_)
    refine wpList_stp (stp_call hF (wanted_none rfl) rfl rfl Tryd.ok65 rfl (Evs.cons (hF.t rfl) Evs.nil) (sum_ok (hG.ext (hS.toExt (nw_cons rfl (nw_cons rfl nw_nil)))) (rdX hS List.mem_cons_self rfl bc) (by omega)) fun e w h => ?_)
    obtain ⟨rfl, hx⟩ := h
    refine ⟨_, rfl, fun a hF => ?_⟩
    replace hS := hS.ext hx
    clear hx
    refine wpList_stp (stp_storeAll hF (wanted_none rfl) rfl rfl (Tryd.sz94.trans (congrArg some (by rw [List.length_map, sum256_len]))) (hF.t rfl) (hF.t rfl) (one_B _) hS (k := 1) rfl (by rw [List.length_map, sum256_len]; rfl) fun w hS => ?_)
    refine wpList_nil ?_
    refine then_normal (hKq8 _ _ ?_)
    refine wp_ret ?_
    refine retCell (fn := Tryd.f44) hF rfl Tryd.underlying94 rfl (Tryd.sz94.trans (congrArg some (by rw [List.length_map, sum256_len]))) rfl hS (k := 1) rfl ⟨rfl, hS.toExt (nw_cons rfl (nw_cons rfl nw_nil))⟩


def u32B (x : UInt32) : List UInt8 := [(x >>> UInt32.ofNat 24).toUInt8, (x >>> UInt32.ofNat 16).toUInt8, (x >>> UInt32.ofNat 8).toUInt8, x.toUInt8]
theorem u32B_len (x : UInt32) : (u32B x).length = 4 := rfl
def u32A (l : List UInt8) : Nat → UInt32
  | 0 => 0
  | i + 1 => u32A l i <<< UInt32.ofNat 8 ||| (l.getD i 0).toUInt32
abbrev wrd (v : Value) (bad : Bool) : Obj := blk 135 [v, .bool bad]
theorem build_wrd {A : Option Addr} {n c : Nat} (w : World) : (Instr.build 135 #[(0, .slice A n c)]).run Tryd.prog w = .ok (.agg [.slice A n c, .bool false].toArray) w := by
  refine run_buildStr (pl := [(0, .slice A n c)]) (places := #[(0, 1), (1, 1)]) Tryd.underlying135 Tryd.zv135 rfl (fun w => ?_) ?_
  · simp [Fw.run_sizeOf Tryd.sz22, Fw.run_sizeOf Tryd.sz4]
  · rfl
theorem dgetD_take {l : List UInt8} {o i : Nat} (h : i < o) : (l.take o).getD i 0 = l.getD i 0 := by simp [List.getD_eq_getElem?_getD, h]


theorem u32_ok {w00 w : World} {T : List Ent} {o : Option Nat} {l : List UInt8} {op : List Value} {x : UInt32} (hT : ∀ e ∈ T, e.nw = true) (hS : St w00 w (⟨true, o, blk 5 (l.map vB ++ op)⟩ :: T)) (oo : o = none → l = [] ∧ op = []) (oc : l.length + op.length ≤ 9223372036854775807) (hn : l.length ≤ 1099511627776) :
    Calls Tryd.prog 45 #[ownV o l.length (l.length + op.length), vW x] w fun e w' => ∃ o' op', e = .returned (ownV o' (l ++ u32B x).length ((l ++ u32B x).length + op'.length)) ∧ (o' = none → (l ++ u32B x) = [] ∧ op' = []) ∧ ((l ++ u32B x)).length + op'.length ≤ 9223372036854775807 ∧ St w00 w' (⟨true, o', blk 5 ((l ++ u32B x).map vB ++ op')⟩ :: T) := by
  refine calls_start 19 Tryd.func45 rfl Tryd.ntmps45 rfl fun a hF => ?_
  refine wp_seq_k fun Kq1 hKq1 => ?_
  -- region 0 (wire.go:11)
  refine wp_region_lit ?_
  refine wpList_stp (stp_gv hF (wanted_none rfl) rfl rfl (gv_assign rfl (ev_const _ _)) fun a hF => ?_)
  refine wpList_nil ?_
  refine then_normal (hKq1 _ _ ?_)
  refine wp_seq_k fun Kq2 hKq2 => ?_
  -- region 1 (wire.go:12)
  refine wp_region_lit ?_
  refine wpList_stp (stp_gv hF (wanted_none rfl) rfl rfl (gv_move rfl (hF.t rfl)) fun a hF => ?_)
  refine wpList_stp (stp_gv hF (wanted_none rfl) rfl rfl (gv_move rfl (hF.t rfl)) fun a hF => ?_)
  refine wpList_stp (stp_gv hF (wanted_none rfl) rfl rfl (gv_w_shr (n := 24) rfl (hF.t rfl) rfl (by omega)) fun a hF => ?_)
  refine wpList_stp (stp_gv hF (wanted_none rfl) rfl rfl (gv_conv_w_b rfl Tryd.underlying32 Tryd.underlying5 (hF.t rfl)) fun a hF => ?_)
  refine wpList_stp (stp_gv hF (wanted_none rfl) rfl rfl (gv_move rfl (hF.t rfl)) fun a hF => ?_)
  refine wpList_stp (stp_gv hF (wanted_none rfl) rfl rfl (gv_w_shr (n := 16) rfl (hF.t rfl) rfl (by omega)) fun a hF => ?_)
  refine wpList_stp (stp_gv hF (wanted_none rfl) rfl rfl (gv_conv_w_b rfl Tryd.underlying32 Tryd.underlying5 (hF.t rfl)) fun a hF => ?_)
  refine wpList_stp (stp_gv hF (wanted_none rfl) rfl rfl (gv_move rfl (hF.t rfl)) fun a hF => ?_)
  refine wpList_stp (stp_gv hF (wanted_none rfl) rfl rfl (gv_w_shr (n := 8) rfl (hF.t rfl) rfl (by omega)) fun a hF => ?_)
  refine wpList_stp (stp_gv hF (wanted_none rfl) rfl rfl (gv_conv_w_b rfl Tryd.underlying32 Tryd.underlying5 (hF.t rfl)) fun a hF => ?_)
  refine wpList_stp (stp_gv hF (wanted_none rfl) rfl rfl (gv_move rfl (hF.t rfl)) fun a hF => ?_)
  refine wpList_stp (stp_gv hF (wanted_none rfl) rfl rfl (gv_conv_w_b rfl Tryd.underlying32 Tryd.underlying5 (hF.t rfl)) fun a hF => ?_)
  refine wpList_stp (stp_build4 hF (wanted_none rfl) rfl rfl rfl Tryd.underlying22 Tryd.ty5 (hF.t rfl) (hF.t rfl) (hF.t rfl) (hF.t rfl) hS fun zb a w hF hS => ?_)
  have hR : Rd w (.slice (some ⟨zb, 0, none⟩) 4 4) ((u32B x).map vB) := rd_blkB hS List.mem_cons_self rfl (by omega)
  refine wpList_stp (stp_appB (k := 1) hF (wanted_none rfl) rfl rfl rfl Tryd.underlying22 Tryd.ty5 rfl (hF.t rfl) (hF.t rfl) hS rfl oo oc hR (by rw [u32B_len]; omega) fun o op a w hF oo oc hS => ?_)
  replace hS := hS.drop rfl
  refine wpList_stp (stp_gv hF (wanted_none rfl) rfl rfl (gv_assign rfl (hF.t rfl)) fun a hF => ?_)
  refine wpList_nil ?_
  refine then_normal (hKq2 _ _ ?_)
  refine wp_ret ?_
  refine ret1 (fn := Tryd.f45) (t := 4) hF rfl rfl ?_
  exact ⟨o, op, rfl, oo, oc, hS⟩

theorem from_ok {A : Option Addr} {n c : Nat} {w0 : World} :
    Calls Tryd.prog 48 #[.slice A n c] w0 fun e w' => ∃ r, e = .returned (.pointer (some ⟨r, 0, none⟩)) ∧ St w0 w' [⟨true, some r, wrd (.slice A n c) false⟩] := by
  refine calls_start 6 Tryd.func48 rfl Tryd.ntmps48 rfl fun a hF => ?_
  have hS := St.refl w0
  refine wp_seq_k fun Kq1 hKq1 => ?_
  -- region 0 (wire.go:47)
  refine wp_region_lit ?_
  refine wpList_stp (stp_gv hF (wanted_none rfl) rfl rfl (gv_assign rfl (ev_const _ _)) fun a hF => ?_)
  refine wpList_nil ?_
  refine then_normal (hKq1 _ _ ?_)
  refine wp_seq_k fun Kq2 hKq2 => ?_
  -- region 1 (wire.go:47)
  refine wp_region_lit ?_
  refine wpList_stp (stp_gv hF (wanted_none rfl) rfl rfl (gv_move rfl (hF.t rfl)) fun a hF => ?_)
  refine wpList_stp (stp_gv hF (wanted_none rfl) rfl rfl (gv_build rfl (EvP.map (EvP.cons (hF.t rfl) EvP.nil)) (build_wrd _)) fun a hF => ?_)
  refine wpList_stp (stp_box hF (wanted_none rfl) rfl rfl rfl (hF.t rfl) rfl hS fun r a w hF hS => ?_)
  refine wpList_stp (stp_gv hF (wanted_none rfl) rfl rfl (gv_assign rfl (hF.t rfl)) fun a hF => ?_)
  refine wpList_nil ?_
  refine then_normal (hKq2 _ _ ?_)
  refine wp_ret ?_
  refine ret1 (fn := Tryd.f48) (t := 2) hF rfl rfl ?_
  exact ⟨r, rfl, hS⟩

theorem take_ok {w00 w : World} {T : List Ent} {r k n c : Nat} {A : Option Addr} (hS : St w00 w (⟨true, some r, wrd (.slice A n c) false⟩ :: T)) (hk : k ≤ n) (hc : n ≤ c) :
    Calls Tryd.prog 68 #[.pointer (some ⟨r, 0, none⟩), vI k] w fun e w' => e = .returned (.slice A k k) ∧ St w00 w' (⟨true, some r, wrd (cutV A n c k) false⟩ :: T) := by
  refine calls_start 48 Tryd.func68 rfl Tryd.ntmps68 rfl fun a hF => ?_
  refine wp_seq_k fun Kq1 hKq1 => ?_
  -- region 0 (wire.go:50)
  refine wp_region_lit ?_
  refine wpList_stp (stp_gv hF (wanted_none rfl) rfl rfl (gv_assign rfl (ev_const _ _)) fun a hF => ?_)
  refine wpList_nil ?_
  refine then_normal (hKq1 _ _ ?_)
  refine wp_seq_k fun Kq2 hKq2 => ?_
  refine wp_seq_k fun Kq3 hKq3 => ?_
  -- region 1 (wire.go:51)
  refine wp_region_lit ?_
  refine wpList_stp (stp_gv hF (wanted_none rfl) rfl rfl (gv_move rfl (hF.t rfl)) fun a hF => ?_)
  refine wpList_stp (stp_gv hF (wanted_none rfl) rfl rfl (gv_eqlNil rfl Tryd.underlying98 (hF.t rfl) (ev_const _ _)) fun a hF => ?_)
  refine wpList_stp (stp_gv hF (wanted_none rfl) rfl rfl (gv_move rfl (hF.t rfl)) fun a hF => ?_)
  refine wpList_stp (stp_gv hF (wanted_of hF rfl rfl (rfl)) rfl rfl (gv_move rfl (hF.t rfl)) fun a hF => ?_)
  refine wpList_stp (stp_gv hF (wanted_of hF rfl rfl (rfl)) rfl rfl (gv_nilCheck rfl (hF.t rfl)) fun a hF => ?_)
  refine wpList_stp (stp_gv hF (wanted_of hF rfl rfl (rfl)) rfl rfl (gv_field (r := 1) rfl Tryd.underlying135 rfl rfl Tryd.sz4 (by decide) (hF.t rfl)) fun a hF => ?_)
  refine wpList_stp (stp_gv hF (wanted_of hF rfl rfl (rfl)) rfl rfl (gv_load rfl Tryd.underlying4 rfl (hF.t rfl) (cell_ix (j := 1) (hS.cell (k := 0) rfl (rfl)) (by omega))) fun a hF => ?_)
  refine wpList_stp (stp_gv hF (wanted_none rfl) rfl rfl (gv_pickF rfl (hF.t rfl) (hF.t rfl)) fun a hF => ?_)
  refine wpList_stp (stp_gv hF (wanted_none rfl) rfl rfl (gv_move rfl (hF.t rfl)) fun a hF => ?_)
  refine wpList_stp (stp_gv hF (wanted_of hF rfl rfl (rfl)) rfl rfl (gv_move rfl (hF.t rfl)) fun a hF => ?_)
  refine wpList_stp (stp_gv hF (wanted_of hF rfl rfl (rfl)) rfl rfl (gv_move rfl (hF.t rfl)) fun a hF => ?_)
  refine wpList_stp (stp_gv hF (wanted_of hF rfl rfl (rfl)) rfl rfl (gv_nilCheck rfl (hF.t rfl)) fun a hF => ?_)
  refine wpList_stp (stp_gv hF (wanted_of hF rfl rfl (rfl)) rfl rfl (gv_field (r := 0) rfl Tryd.underlying135 rfl rfl Tryd.sz22 (by decide) (hF.t rfl)) fun a hF => ?_)
  refine wpList_stp (stp_gv hF (wanted_of hF rfl rfl (rfl)) rfl rfl (gv_load rfl Tryd.underlying22 rfl (hF.t rfl) (cell_ix (j := 0) (hS.cell (k := 0) rfl (rfl)) (by omega))) fun a hF => ?_)
  refine wpList_stp (stp_gv hF (wanted_of hF rfl rfl (rfl)) rfl rfl (gv_len rfl Tryd.underlying22 (hF.t rfl)) fun a hF => ?_)
  refine wpList_stp (stp_gv hF (wanted_of hF rfl rfl (rfl)) rfl rfl (gv_gtrF rfl (hF.t rfl) (hF.t rfl) (by omega)) fun a hF => ?_)
  refine wpList_stp (stp_gv hF (wanted_none rfl) rfl rfl (gv_pickF rfl (hF.t rfl) (hF.t rfl)) fun a hF => ?_)
  refine wpList_nil ?_
  refine then_normal (hKq3 _ _ ?_)
  refine wp_cond_false (hF.t rfl) ?_
  refine wp_skip ?_
  refine then_normal (hKq2 _ _ ?_)
  refine wp_seq_k fun Kq4 hKq4 => ?_
  -- region 5 (wire.go:57)
  refine wp_region_lit ?_
  refine wpList_stp (stp_gv hF (wanted_none rfl) rfl rfl (gv_move rfl (hF.t rfl)) fun a hF => ?_)
  refine wpList_stp (stp_gv hF (wanted_none rfl) rfl rfl (gv_nilCheck rfl (hF.t rfl)) fun a hF => ?_)
  refine wpList_stp (stp_gv hF (wanted_none rfl) rfl rfl (gv_field (r := 0) rfl Tryd.underlying135 rfl rfl Tryd.sz22 (by decide) (hF.t rfl)) fun a hF => ?_)
  refine wpList_stp (stp_gv hF (wanted_none rfl) rfl rfl (gv_load rfl Tryd.underlying22 rfl (hF.t rfl) (cell_ix (j := 0) (hS.cell (k := 0) rfl (rfl)) (by omega))) fun a hF => ?_)
  refine wpList_stp (stp_gv hF (wanted_none rfl) rfl rfl (gv_move rfl (hF.t rfl)) fun a hF => ?_)
  refine wpList_stp (stp_gv hF (wanted_none rfl) rfl rfl (gv_move rfl (hF.t rfl)) fun a hF => ?_)
  refine wpList_stp (stp_gv hF (wanted_none rfl) rfl rfl (gv_sliceHM rfl Tryd.underlying22 Tryd.sz5 (hF.t rfl) (hF.t rfl) (hF.t rfl) (by omega) (by omega)) fun a hF => ?_)
  refine wpList_stp (stp_gv hF (wanted_none rfl) rfl rfl (gv_assign rfl (hF.t rfl)) fun a hF => ?_)
  refine wpList_nil ?_
  refine then_normal (hKq4 _ _ ?_)
  refine wp_seq_k fun Kq5 hKq5 => ?_
  -- region 6 (wire.go:58)
  refine wp_region_lit ?_
  refine wpList_stp (stp_gv hF (wanted_none rfl) rfl rfl (gv_move rfl (hF.t rfl)) fun a hF => ?_)
  refine wpList_stp (stp_gv hF (wanted_none rfl) rfl rfl (gv_move rfl (hF.t rfl)) fun a hF => ?_)
  refine wpList_stp (stp_gv hF (wanted_none rfl) rfl rfl (gv_nilCheck rfl (hF.t rfl)) fun a hF => ?_)
  refine wpList_stp (stp_gv hF (wanted_none rfl) rfl rfl (gv_field (r := 0) rfl Tryd.underlying135 rfl rfl Tryd.sz22 (by decide) (hF.t rfl)) fun a hF => ?_)
  refine wpList_stp (stp_gv hF (wanted_none rfl) rfl rfl (gv_load rfl Tryd.underlying22 rfl (hF.t rfl) (cell_ix (j := 0) (hS.cell (k := 0) rfl (rfl)) (by omega))) fun a hF => ?_)
  refine wpList_stp (stp_gv hF (wanted_none rfl) rfl rfl (gv_move rfl (hF.t rfl)) fun a hF => ?_)
  refine wpList_stp (stp_gv hF (wanted_none rfl) rfl rfl (gv_sliceLo rfl Tryd.underlying22 Tryd.sz5 (hF.t rfl) (hF.t rfl) (by omega)) fun a hF => ?_)
  refine wpList_stp (stp_gv hF (wanted_none rfl) rfl rfl (gv_nilCheck rfl (hF.t rfl)) fun a hF => ?_)
  refine wpList_stp (stp_gv hF (wanted_none rfl) rfl rfl (gv_field (r := 0) rfl Tryd.underlying135 rfl rfl Tryd.sz22 (by decide) (hF.t rfl)) fun a hF => ?_)
  refine wpList_stp (stp_storeAt (0) hF (wanted_none rfl) rfl rfl Tryd.sz22 (hF.t rfl) (by omega) (hF.t rfl) rfl hS (k := 0) rfl (by simp) fun w hS => ?_)
  refine wpList_nil ?_
  refine then_normal (hKq5 _ _ ?_)
  refine wp_seq_k fun Kq6 hKq6 => ?_
  -- region 7 (wire.go:59)
  refine wp_region_lit ?_
  refine wpList_stp (stp_gv hF (wanted_none rfl) rfl rfl (gv_move rfl (hF.t rfl)) fun a hF => ?_)
  refine wpList_stp (stp_gv hF (wanted_none rfl) rfl rfl (gv_assign rfl (hF.t rfl)) fun a hF => ?_)
  refine wpList_nil ?_
  refine then_normal (hKq6 _ _ ?_)
  refine wp_ret ?_
  refine ret1 (fn := Tryd.f68) (t := 4) hF rfl rfl ?_
  exact ⟨rfl, hS⟩

theorem ru32_ok {w00 w : World} {T : List Ent} {r c : Nat} {A : Option Addr} {bl : List UInt8} (hT : ∀ e ∈ T, e.nw = true) (hS : St w00 w (⟨true, some r, wrd (.slice A bl.length c) false⟩ :: T)) (hP : SRd w00 T (.slice A bl.length c) (bl.map vB)) (hk : 4 ≤ bl.length) (hc : bl.length ≤ c) :
    Calls Tryd.prog 49 #[.pointer (some ⟨r, 0, none⟩)] w fun e w' => e = .returned (vW (u32A bl 4)) ∧ St w00 w' (⟨true, some r, wrd (cutV A bl.length c 4) false⟩ :: T) := by
  replace hP := hP.cutHM (h := 4) (mx := 4) hk (Nat.le_refl _) (by omega)
  rw [← List.map_take] at hP
  have hl4 : (bl.take 4).length = 4 := by simp; omega
  have hR0 := hP w _ hS (nw_cons rfl hT) (fun e he => List.mem_cons_of_mem _ he)
  obtain ⟨A1, c1, hv, _, _, hcell⟩ := hR0.isB
  injection hv with hv1 _ _
  subst hv1
  obtain ⟨b1, o1, rfl, _⟩ := hcell (by omega)
  clear hcell hR0
  refine calls_start 20 Tryd.func49 rfl Tryd.ntmps49 rfl fun a hF => ?_
  refine wp_seq_k fun Kq1 hKq1 => ?_
  -- region 0 (wire.go:74)
  refine wp_region_lit ?_
  refine wpList_stp (stp_gv hF (wanted_none rfl) rfl rfl (gv_assign rfl (ev_const _ _)) fun a hF => ?_)
  refine wpList_nil ?_
  refine then_normal (hKq1 _ _ ?_)
  refine wp_seq_k fun Kq2 hKq2 => ?_
  -- region 1 (wire.go:75)
  refine wp_region_lit ?_
  refine wpList_stp (stp_gv hF (wanted_none rfl) rfl rfl (gv_assign rfl (ev_const _ _)) fun a hF => ?_)
  refine wpList_nil ?_
  refine then_normal (hKq2 _ _ ?_)
  refine wp_seq_k fun Kq3 hKq3 => ?_
  refine wp_seq_k fun Kq4 hKq4 => ?_
  -- region 2 (wire.go:76)
  refine wp_region_lit ?_
  refine wpList_stp (stp_gv hF (wanted_none rfl) rfl rfl (gv_move rfl (hF.t rfl)) fun a hF => ?_)
  refine wpList_stp (stp_call hF (wanted_none rfl) rfl rfl Tryd.ok68 rfl (Evs.cons (hF.t rfl) (Evs.cons (ev_const _ _) Evs.nil)) (take_ok (k := 4) hS hk hc) fun e w h => ?_)
  obtain ⟨rfl, hS⟩ := h
  refine ⟨_, rfl, fun a hF => ?_⟩
  refine wpList_stp (stp_gv hF (wanted_none rfl) rfl rfl (gv_len rfl Tryd.underlying22 (hF.t rfl)) fun a hF => ?_)
  refine wpList_stp (stp_gv hF (wanted_none rfl) rfl rfl (gv_move rfl (ev_const _ _)) fun a hF => ?_)
  refine wpList_nil ?_
  refine then_normal (hKq4 _ _ ?_)
  refine wp_block ?_
  refine wp_loop_n (fun n a w => ∃ i, i ≤ 4 ∧ n = 4 - i ∧ Fr 20 a [(0, .pointer (some ⟨r, 0, none⟩)), (3, vW (u32A bl i)), (7, .slice (some ⟨b1, o1, none⟩) 4 4), (8, vI 4), (9, vI i)] ∧ St w00 w (⟨true, some r, wrd (cutV (some ⟨b1, o1, none⟩) bl.length c 4) false⟩ :: T)) 4 ⟨0, by omega, by omega, hF.sub ⟨rfl, rfl, rfl, rfl, rfl, trivial⟩, hS⟩ ?_
  rintro n a w ⟨i, hi, hn, hF, hS⟩
  refine wp_seq_k fun Kq5 hKq5 => ?_
  -- region 3 (wire.go:76)
  refine wp_region_lit ?_
  refine wpList_stp (stp_gv hF (wanted_none rfl) rfl rfl (gv_lss rfl (hF.t rfl) (hF.t rfl)) fun a hF => ?_)
  refine wpList_nil ?_
  refine then_normal (hKq5 _ _ ?_)
  refine wp_seq_k fun Kq6 hKq6 => ?_
  refine cond_dec (hF.t rfl) (fun h10 => ?_) (fun h10 => ?_)
  ·
    refine wp_skip ?_
    refine then_normal (hKq6 _ _ ?_)
    refine wp_seq_k fun Kq7 hKq7 => ?_
    refine wp_block ?_
    refine wp_seq_k fun Kq8 hKq8 => ?_
    -- region 4 (wire.go:76)
    refine wp_region_lit ?_
    refine wpList_stp (stp_gv hF (wanted_none rfl) rfl rfl (gv_indexSl rfl Tryd.underlying22 Tryd.sz5 (hF.t rfl) (hF.t rfl) (by omega)) fun a hF => ?_)
    refine wpList_stp (stp_gv hF (wanted_none rfl) rfl rfl (gv_load rfl Tryd.underlying5 rfl (hF.t rfl) (cell_ix ((hP _ _ hS (nw_cons rfl hT) (fun e he => List.mem_cons_of_mem _ he)).cellB i (by omega)) (by omega))) fun a hF => ?_)
    refine wpList_stp (stp_gv hF (wanted_none rfl) rfl rfl (gv_assign rfl (hF.t rfl)) fun a hF => ?_)
    refine wpList_nil ?_
    refine then_normal (hKq8 _ _ ?_)
    -- region 5 (wire.go:77)
    refine wp_region_lit ?_
    refine wpList_stp (stp_gv hF (wanted_none rfl) rfl rfl (gv_move rfl (hF.t rfl)) fun a hF => ?_)
    refine wpList_stp (stp_gv hF (wanted_none rfl) rfl rfl (gv_w_shl (n := 8) rfl (hF.t rfl) rfl (by omega)) fun a hF => ?_)
    refine wpList_stp (stp_gv hF (wanted_none rfl) rfl rfl (gv_move rfl (hF.t rfl)) fun a hF => ?_)
    refine wpList_stp (stp_gv hF (wanted_none rfl) rfl rfl (gv_conv_b_w rfl Tryd.underlying5 Tryd.underlying32 (hF.t rfl)) fun a hF => ?_)
    refine wpList_stp (stp_gv hF (wanted_none rfl) rfl rfl (gv_w_or rfl (hF.t rfl) (hF.t rfl)) fun a hF => ?_)
    refine wpList_stp (stp_gv hF (wanted_none rfl) rfl rfl (gv_assign rfl (hF.t rfl)) fun a hF => ?_)
    refine wpList_nil ?_
    refine block_normal ?_
    refine then_normal (hKq7 _ _ ?_)
    -- region 6 (wire.go:76)
    refine wp_region_lit ?_
    refine wpList_stp (stp_gv hF (wanted_none rfl) rfl rfl (gv_nadd (n := 1) rfl (hF.t rfl) rfl (by omega)) fun a hF => ?_)
    refine wpList_stp (stp_gv hF (wanted_none rfl) rfl rfl (gv_move rfl (hF.t rfl)) fun a hF => ?_)
    refine wpList_nil ?_
    refine then_normal ?_
    rw [dgetD_take (show i < 4 by omega)] at hF
    exact ⟨n - 1, by omega, i + 1, by omega, by omega, hF.sub ⟨rfl, rfl, rfl, rfl, rfl, trivial⟩, hS⟩
  ·
    refine wp_exit ?_
    refine then_exit ?_
    refine then_exit ?_
    refine block_exit ?_
    refine then_normal (hKq3 _ _ ?_)
    refine wp_seq_k fun Kq9 hKq9 => ?_
    obtain rfl : i = 4 := by omega
    -- region 7 (wire.go:79)
    refine wp_region_lit ?_
    refine wpList_stp (stp_gv hF (wanted_none rfl) rfl rfl (gv_move rfl (hF.t rfl)) fun a hF => ?_)
    refine wpList_stp (stp_gv hF (wanted_none rfl) rfl rfl (gv_assign rfl (hF.t rfl)) fun a hF => ?_)
    refine wpList_nil ?_
    refine then_normal (hKq9 _ _ ?_)
    refine wp_ret ?_
    refine ret1 (fn := Tryd.f49) (t := 2) hF rfl rfl ?_
    exact ⟨rfl, hS⟩


end Go.Proofs.YtfhalnobaeogkaaDoor

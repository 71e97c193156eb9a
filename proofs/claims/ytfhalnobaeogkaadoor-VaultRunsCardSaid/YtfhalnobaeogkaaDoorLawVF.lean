/- What is proved: VaultFull returns true. -/
import Derived.Test.YtfhalnobaeogkaaDoorProg
import Derived.Test.YtfhalnobaeogkaaDoorFwSep
import Derived.KernelRfl
import Derived.Test.YtfhalnobaeogkaaDoorFwSto
import Derived.Test.YtfhalnobaeogkaaDoorFwVlt
import Derived.Test.YtfhalnobaeogkaaDoorFwApp
import Derived.Test.YtfhalnobaeogkaaDoorFwWord
import Derived.Test.YtfhalnobaeogkaaDoorFwPkt
import Derived.Test.YtfhalnobaeogkaaDoorFwTok
import Derived.Test.YtfhalnobaeogkaaDoorDig
import Derived.Test.YtfhalnobaeogkaaDoorSum
import Derived.Test.YtfhalnobaeogkaaDoorWire
import Derived.Test.YtfhalnobaeogkaaDoorPktW
import Derived.Test.YtfhalnobaeogkaaDoorPktR
import Derived.Test.YtfhalnobaeogkaaDoorWireA
import Derived.Test.YtfhalnobaeogkaaDoorDisk
import Derived.Test.YtfhalnobaeogkaaDoorHead
import Derived.Test.YtfhalnobaeogkaaDoorHalf
import Derived.Test.YtfhalnobaeogkaaDoorOpen
import Derived.Test.YtfhalnobaeogkaaDoorSave
import Derived.Test.YtfhalnobaeogkaaDoorVPure
import Derived.Test.YtfhalnobaeogkaaDoorLawVN
set_option linter.unusedVariables false
set_option linter.unusedSimpArgs false
namespace Go.Proofs.YtfhalnobaeogkaaDoor
open Go Go.RowKit Go.Fw

theorem Tryd.ok34 : CallOk Tryd.prog 34 := ⟨_, Tryd.func34, by kernel_rfl, by kernel_rfl⟩


theorem take_step {l : List UInt8} {j : Nat} : l.take (64 * j) ++ blkF l j = l.take (64 * (j + 1)) := by
  rw [blkF, show 64 * (j + 1) = 64 * j + 64 by omega, List.take_add]
theorem md (p k : Int) (hk : 0 < k) : ∃ B : Nat, (B : Int) < k ∧ (p.tmod k + k).tmod k = (B : Int) ∧ -k < p.tmod k ∧ p.tmod k < k := by
  have h1 := Int.tmod_lt_of_pos p hk
  have h2 := Int.lt_tmod_of_pos p hk
  have h3 : (p.tmod k + k).tmod k = (p.tmod k + k) % k := Int.tmod_eq_emod_of_nonneg (by omega)
  have h4 := Int.emod_nonneg (p.tmod k + k) (show k ≠ 0 by omega)
  have h5 := Int.emod_lt_of_pos (p.tmod k + k) hk
  exact ⟨((p.tmod k + k) % k).toNat, by omega, by omega, by omega, by omega⟩
theorem zblk (N : Nat) : blk 5 (List.replicate N (Value.int .u8 0)) = blkB 5 (List.replicate N 0) := by
  show blk _ _ = blk _ _
  rw [List.map_replicate]; rfl
theorem rep_rd {N : Nat} {v : Value} {w : World} (h : FlR (List.replicate N (Value.int .u8 0)) v w) : Rd w v ((List.replicate N (0 : UInt8)).map vB) := by
  rw [List.map_replicate]; exact h
theorem build_rec01 (a : List UInt8) (w : World) : (Instr.build 63 #[(0, sV a)]).run Tryd.prog w = .ok (.agg [sV a, sV [], .bool false].toArray) w := by
  refine run_buildStr (pl := [(0, sV a)]) (places := #[(0, 1), (1, 1), (2, 1)]) Tryd.underlying63 Tryd.zv63 rfl (fun w => ?_) ?_
  · simp [Fw.run_sizeOf Tryd.sz9, Fw.run_sizeOf Tryd.sz4]
  · rfl


theorem image_ok {d p n c : Nat} {D : Dk} {w0 : World} (hD : DskW w0 d p n c D) (hl : D.l.length = 64 * n) (hn : n ≤ 1024) :
    Calls Tryd.prog 34 #[.pointer (some ⟨d, 0, none⟩)] w0 fun e w' => ∃ o op, e = .returned (ownV o D.l.length (D.l.length + op.length)) ∧ (o = none → D.l = [] ∧ op = []) ∧ (D.l).length + op.length ≤ 9223372036854775807 ∧ St w0 w' [⟨true, o, blk 5 (D.l.map vB ++ op)⟩] := by
  refine calls_start 19 Tryd.func34 rfl Tryd.ntmps34 rfl fun a hF => ?_
  have hS := St.refl w0
  refine wp_seq_k fun Kq1 hKq1 => ?_
  -- region 0 (law.go:40)
  refine wp_region_lit ?_
  refine wpList_stp (stp_gv hF (wanted_none rfl) rfl rfl (gv_assign rfl (ev_const _ _)) fun a hF => ?_)
  refine wpList_nil ?_
  refine then_normal (hKq1 _ _ ?_)
  refine wp_seq_k fun Kq2 hKq2 => ?_
  -- region 1 (law.go:41)
  refine wp_region_lit ?_
  refine wpList_stp (stp_gv hF (wanted_none rfl) rfl rfl (gv_assign rfl (ev_const _ _)) fun a hF => ?_)
  refine wpList_nil ?_
  refine then_normal (hKq2 _ _ ?_)
  refine wp_seq_k fun Kq3 hKq3 => ?_
  refine wp_seq_k fun Kq4 hKq4 => ?_
  -- region 2 (law.go:42)
  refine wp_region_lit ?_
  refine wpList_stp (stp_gv hF (wanted_none rfl) rfl rfl (gv_move rfl (hF.t rfl)) fun a hF => ?_)
  refine wpList_stp (stp_call hF (wanted_none rfl) rfl rfl Tryd.ok42 rfl (Evs.cons (hF.t rfl) Evs.nil) (blocks_ok hD.c0) fun e w h => ?_)
  obtain ⟨rfl, hx⟩ := h
  refine ⟨_, rfl, fun a hF => ?_⟩
  replace hS := hS.ext hx
  clear hx
  refine wpList_stp (stp_gv hF (wanted_none rfl) rfl rfl (gv_move rfl (ev_const _ _)) fun a hF => ?_)
  refine wpList_nil ?_
  refine then_normal (hKq4 _ _ ?_)
  refine wp_block ?_
  replace hS := hS.addNil (blk 5 (([] : List UInt8).map vB ++ []))
  refine wp_loop_n (fun nn a w => ∃ (j : Nat) (o : Option Nat) (op : List Value), j ≤ n ∧ nn = n - j ∧ (o = none → (D.l.take (64 * j)) = [] ∧ op = []) ∧ ((D.l.take (64 * j))).length + op.length ≤ 9223372036854775807 ∧ Fr 19 a [(0, .pointer (some ⟨d, 0, none⟩)), (3, ownV o (D.l.take (64 * j)).length ((D.l.take (64 * j)).length + op.length)), (7, vI n), (8, vI j)] ∧ St w0 w [⟨true, o, blk 5 (((D.l.take (64 * j))).map vB ++ op)⟩]) n ⟨0, none, [], by omega, by omega, fun _ => ⟨rfl, rfl⟩, by simp, hF.sub ⟨rfl, rfl, rfl, rfl, trivial⟩, hS⟩ ?_
  rintro nn a w ⟨j, o, op, hj, hnn, oo, oc, hF, hS⟩
  have hjl : (D.l.take (64 * j)).length = 64 * j := by rw [List.length_take]; omega
  refine wp_seq_k fun Kq5 hKq5 => ?_
  -- region 3 (law.go:42)
  refine wp_region_lit ?_
  refine wpList_stp (stp_gv hF (wanted_none rfl) rfl rfl (gv_lss rfl (hF.t rfl) (hF.t rfl)) fun a hF => ?_)
  refine wpList_nil ?_
  refine then_normal (hKq5 _ _ ?_)
  refine wp_seq_k fun Kq6 hKq6 => ?_
  refine cond_dec (hF.t rfl) (fun h9 => ?_) (fun h9 => ?_)
  ·
    refine wp_skip ?_
    refine then_normal (hKq6 _ _ ?_)
    refine wp_seq_k fun Kq7 hKq7 => ?_
    refine wp_block ?_
    refine wp_seq_k fun Kq8 hKq8 => ?_
    -- region 4 (law.go:42)
    refine wp_region_lit ?_
    refine wpList_stp (stp_gv hF (wanted_none rfl) rfl rfl (gv_move rfl (hF.t rfl)) fun a hF => ?_)
    refine wpList_stp (stp_gv hF (wanted_none rfl) rfl rfl (gv_assign rfl (hF.t rfl)) fun a hF => ?_)
    refine wpList_nil ?_
    refine then_normal (hKq8 _ _ ?_)
    refine wp_seq_k fun Kq9 hKq9 => ?_
    -- region 5 (law.go:43)
    refine wp_region_lit ?_
    refine wpList_stp (stp_gv hF (wanted_none rfl) rfl rfl (gv_move rfl (hF.t rfl)) fun a hF => ?_)
    refine wpList_stp (stp_gv hF (wanted_none rfl) rfl rfl (gv_move rfl (hF.t rfl)) fun a hF => ?_)
    refine wpList_stp (stp_call hF (wanted_none rfl) rfl rfl Tryd.ok31 rfl (Evs.cons (hF.t rfl) (Evs.cons (hF.t rfl) Evs.nil)) (read_ok (i := ((j : Nat) : Int)) (hD.ext (hS.toExt (nw_cons rfl nw_nil))) hl) fun e w h => ?_)
    obtain ⟨rfl, hx⟩ := h
    refine ⟨_, rfl, fun a hF => ?_⟩
    replace hS := hS.ext hx
    clear hx
    obtain ⟨X, hX⟩ : ∃ X, X = rdF D n ((j : Nat) : Int) := ⟨_, rfl⟩
    have hXl : X.length = 64 := by rw [hX]; exact rdF_len hl _
    have hXe : X = blkF D.l j := by rw [hX, rdF_in (by omega)]
    rw [← hX] at hF
    refine wpList_stp (stp_alloc hF (wanted_none rfl) rfl rfl rfl Tryd.zv72 rfl hS fun x a w hF hS => ?_)
    refine wpList_stp (stp_storeAll hF (wanted_none rfl) rfl rfl (Tryd.sz72.trans (congrArg some (by rw [List.length_map, hXl]))) (hF.t rfl) (hF.t rfl) (one_B _) hS (k := 0) rfl (by rw [List.length_map, hXl]; rfl) fun w hS => ?_)
    refine wpList_nil ?_
    refine then_normal (hKq9 _ _ ?_)
    -- region 6 (law.go:44)
    refine wp_region_lit ?_
    refine wpList_stp (stp_gv hF (wanted_none rfl) rfl rfl (gv_move rfl (hF.t rfl)) fun a hF => ?_)
    refine wpList_stp (stp_gv hF (wanted_none rfl) rfl rfl (gv_sliceArr rfl Tryd.underlying72 Tryd.sz5 (hF.t rfl)) fun a hF => ?_)
    refine wpList_stp (stp_appB (k := 1) hF (wanted_none rfl) rfl rfl rfl Tryd.underlying22 Tryd.ty5 rfl (hF.t rfl) (hF.t rfl) hS rfl oo oc ((SRd.arr (w0 := w0) List.mem_cons_self hXl (by omega)) w _ hS (nw_cons rfl (nw_cons rfl nw_nil)) (fun e he => he)) (by rw [hXl]; omega) fun o op a w hF oo oc hS => ?_)
    refine wpList_stp (stp_gv hF (wanted_none rfl) rfl rfl (gv_assign rfl (hF.t rfl)) fun a hF => ?_)
    refine wpList_nil ?_
    refine block_normal ?_
    refine then_normal (hKq7 _ _ ?_)
    -- region 7 (law.go:42)
    refine wp_region_lit ?_
    refine wpList_stp (stp_gv hF (wanted_none rfl) rfl rfl (gv_nadd (n := 1) rfl (hF.t rfl) rfl (by omega)) fun a hF => ?_)
    refine wpList_stp (stp_gv hF (wanted_none rfl) rfl rfl (gv_move rfl (hF.t rfl)) fun a hF => ?_)
    refine wpList_nil ?_
    refine then_normal ?_
    replace hS := hS.drop rfl
    rw [hXe, take_step] at hF oo oc hS
    exact ⟨nn - 1, by omega, j + 1, o, op, by omega, by omega, oo, oc, hF.sub ⟨rfl, rfl, rfl, rfl, trivial⟩, hS⟩
  ·
    refine wp_exit ?_
    refine then_exit ?_
    refine then_exit ?_
    refine block_exit ?_
    refine then_normal (hKq3 _ _ ?_)
    refine wp_seq_k fun Kq10 hKq10 => ?_
    obtain rfl : j = n := by omega
    rw [List.take_of_length_le (by omega)] at hF oo oc hS
    -- region 8 (law.go:46)
    refine wp_region_lit ?_
    refine wpList_stp (stp_gv hF (wanted_none rfl) rfl rfl (gv_move rfl (hF.t rfl)) fun a hF => ?_)
    refine wpList_stp (stp_gv hF (wanted_none rfl) rfl rfl (gv_assign rfl (hF.t rfl)) fun a hF => ?_)
    refine wpList_nil ?_
    refine then_normal (hKq10 _ _ ?_)
    refine wp_ret ?_
    refine ret1 (fn := Tryd.f34) (t := 2) hF rfl rfl ?_
    exact ⟨o, op, rfl, oo, oc, hS⟩

set_option maxHeartbeats 1000000 in
theorem vfull_true {i j : Int} {w0 : World} (hG : Glob w0) (hi : -9223372036854775808 ≤ i ∧ i ≤ 9223372036854775807) (hj : -9223372036854775808 ≤ j ∧ j ≤ 9223372036854775807) :
    Calls Tryd.prog 9 #[.int .i64 i, .int .i64 j] w0 fun e w' => e = .returned (.bool true) ∧ Ext w0 w' := by
  refine calls_start 92 Tryd.func9 rfl Tryd.ntmps9 rfl fun a hF => ?_
  have hS := St.refl w0
  obtain ⟨N0, hN0, hNe, hN1, hN2⟩ := md i 40 (by decide)
  obtain ⟨M, hM0, hMe, hM1, hM2⟩ := md j 1500 (by decide)
  refine wp_seq_k fun Kq1 hKq1 => ?_
  -- region 0 (law.go:223)
  refine wp_region_lit ?_
  refine wpList_stp (stp_gv hF (wanted_none rfl) rfl rfl (gv_assign rfl (ev_const _ _)) fun a hF => ?_)
  refine wpList_nil ?_
  refine then_normal (hKq1 _ _ ?_)
  refine wp_seq_k fun Kq2 hKq2 => ?_
  refine wp_seq_k fun Kq3 hKq3 => ?_
  -- region 1 (law.go:224)
  refine wp_region_lit ?_
  refine wpList_stp (stp_call hF (wanted_none rfl) rfl rfl Tryd.ok27 rfl Evs.nil (fit18_ok hG) fun e w h => ?_)
  obtain ⟨rfl, hx⟩ := h
  refine ⟨_, rfl, fun a hF => ?_⟩
  replace hS := hS.ext hx
  clear hx
  refine wpList_stp (stp_gv hF (wanted_none rfl) rfl rfl (gv_not rfl (hF.t rfl)) fun a hF => ?_)
  refine wpList_nil ?_
  refine then_normal (hKq3 _ _ ?_)
  refine wp_cond_false (hF.t rfl) ?_
  refine wp_skip ?_
  refine then_normal (hKq2 _ _ ?_)
  refine wp_seq_k fun Kq4 hKq4 => ?_
  -- region 3 (law.go:227)
  refine wp_region_lit ?_
  refine wpList_stp (stp_gv hF (wanted_none rfl) rfl rfl (gv_move rfl (hF.t rfl)) fun a hF => ?_)
  refine wpList_stp (stp_gv hF (wanted_none rfl) rfl rfl (gv_rem rfl (hF.t rfl) (ev_const _ _) (by decide)) fun a hF => ?_)
  refine wpList_stp (stp_gv hF (wanted_none rfl) rfl rfl (gv_add rfl (hF.t rfl) (ev_const _ _) (by omega) (by omega)) fun a hF => ?_)
  refine wpList_stp (stp_gv hF (wanted_none rfl) rfl rfl (gv_rem rfl (hF.t rfl) (ev_const _ _) (by decide)) fun a hF => ?_)
  rw [hNe] at hF
  refine wpList_stp (stp_gv hF (wanted_none rfl) rfl rfl (gv_nadd (m := N0) (n := 4) rfl (hF.t rfl) rfl (by omega)) fun a hF => ?_)
  obtain ⟨n, hn⟩ : ∃ n, n = N0 + 4 := ⟨_, rfl⟩
  have hn4 : 4 ≤ n := by omega
  have hn43 : n ≤ 43 := by omega
  replace hF : Fr 92 a [(21, vI n), (1, .int .i64 j)] := hF.sub ⟨by rw [hn]; rfl, rfl, trivial⟩
  refine wpList_stp (stp_gv hF (wanted_none rfl) rfl rfl (gv_assign rfl (hF.t rfl)) fun a hF => ?_)
  refine wpList_nil ?_
  refine then_normal (hKq4 _ _ ?_)
  refine wp_seq_k fun Kq5 hKq5 => ?_
  -- region 4 (law.go:228)
  refine wp_region_lit ?_
  refine wpList_stp (stp_gv hF (wanted_none rfl) rfl rfl (gv_move rfl (hF.t rfl)) fun a hF => ?_)
  refine wpList_stp (stp_gv hF (wanted_none rfl) rfl rfl (gv_rem rfl (hF.t rfl) (ev_const _ _) (by decide)) fun a hF => ?_)
  refine wpList_stp (stp_gv hF (wanted_none rfl) rfl rfl (gv_add rfl (hF.t rfl) (ev_const _ _) (by omega) (by omega)) fun a hF => ?_)
  refine wpList_stp (stp_gv hF (wanted_none rfl) rfl rfl (gv_rem rfl (hF.t rfl) (ev_const _ _) (by decide)) fun a hF => ?_)
  rw [hMe] at hF
  refine wpList_stp (stp_gv hF (wanted_none rfl) rfl rfl (gv_assign rfl (hF.t rfl)) fun a hF => ?_)
  refine wpList_nil ?_
  refine then_normal (hKq5 _ _ ?_)
  refine wp_seq_k fun Kq6 hKq6 => ?_
  -- region 5 (law.go:229)
  refine wp_region_lit ?_
  refine wpList_stp (stp_gv hF (wanted_none rfl) rfl rfl (gv_move rfl (hF.t rfl)) fun a hF => ?_)
  refine wpList_stp (stp_call hF (wanted_none rfl) rfl rfl Tryd.ok28 rfl (Evs.cons (hF.t rfl) Evs.nil) (new_call (n := n) (by omega) (by omega)) fun e w h => ?_)
  obtain ⟨d, p, rfl, hN⟩ := h
  refine ⟨_, rfl, fun a hF => ?_⟩
  replace hS := hS.join hN (nw_cons rfl (nw_cons rfl nw_nil))
  simp only [List.cons_append, List.nil_append] at hS
  clear hN
  refine wpList_stp (stp_gv hF (wanted_none rfl) rfl rfl (gv_move rfl (hF.t rfl)) fun a hF => ?_)
  refine wpList_stp (stp_gv hF (wanted_none rfl) rfl rfl (gv_extract rfl (hF.t rfl) rfl) fun a hF => ?_)
  refine wpList_stp (stp_gv hF (wanted_none rfl) rfl rfl (gv_extract rfl (hF.t rfl) rfl) fun a hF => ?_)
  refine wpList_stp (stp_gv hF (wanted_none rfl) rfl rfl (gv_assign rfl (hF.t rfl)) fun a hF => ?_)
  refine wpList_stp (stp_gv hF (wanted_none rfl) rfl rfl (gv_assign rfl (hF.t rfl)) fun a hF => ?_)
  refine wpList_nil ?_
  refine then_normal (hKq6 _ _ ?_)
  refine wp_seq_k fun Kq7 hKq7 => ?_
  -- region 6 (law.go:230)
  refine wp_region_lit ?_
  refine wpList_stp (stp_gv hF (wanted_none rfl) rfl rfl (gv_move rfl (hF.t rfl)) fun a hF => ?_)
  refine wpList_stp (stp_call hF (wanted_none rfl) rfl rfl Tryd.ok29 rfl (Evs.cons (hF.t rfl) Evs.nil) (open_ok (hG.ext (hS.toExt (nw_cons rfl (nw_cons rfl nw_nil)))) (dskW_of (k := 0) (k' := 1) hS rfl rfl) (new_ok hn4 (by omega))) fun e w h => ?_)
  obtain ⟨v, rfl, hN⟩ := h
  refine ⟨_, rfl, fun a hF => ?_⟩
  rw [new_open hn4] at hF hN
  replace hS := hS.join hN (nw_cons rfl nw_nil)
  simp only [List.cons_append, List.nil_append] at hS
  clear hN
  refine wpList_stp (stp_gv hF (wanted_none rfl) rfl rfl (gv_move rfl (hF.t rfl)) fun a hF => ?_)
  refine wpList_stp (stp_gv hF (wanted_none rfl) rfl rfl (gv_extract rfl (hF.t rfl) rfl) fun a hF => ?_)
  refine wpList_stp (stp_gv hF (wanted_none rfl) rfl rfl (gv_extract rfl (hF.t rfl) rfl) fun a hF => ?_)
  refine wpList_stp (stp_gv hF (wanted_none rfl) rfl rfl (gv_extract rfl (hF.t rfl) rfl) fun a hF => ?_)
  refine wpList_stp (stp_alloc hF (wanted_none rfl) rfl rfl rfl Tryd.zv63 rfl hS fun r8 a w hF hS => ?_)
  refine wpList_stp (stp_gv hF (wanted_none rfl) rfl rfl (gv_assign rfl (hF.t rfl)) fun a hF => ?_)
  refine wpList_stp (stp_storeAll hF (wanted_none rfl) rfl rfl (Tryd.sz63.trans (congrArg some (rfl))) (hF.t rfl) (hF.t rfl) ((by intro u hu; simp at hu; rcases hu with rfl | rfl | rfl <;> rfl)) hS (k := 0) rfl (rfl) fun w hS => ?_)
  refine wpList_stp (stp_gv hF (wanted_none rfl) rfl rfl (gv_assign rfl (hF.t rfl)) fun a hF => ?_)
  refine wpList_nil ?_
  refine then_normal (hKq7 _ _ ?_)
  refine wp_seq_k fun Kq8 hKq8 => ?_
  -- region 7 (law.go:231)
  refine wp_region_lit ?_
  refine wpList_stp (stp_gv hF (wanted_none rfl) rfl rfl (gv_move rfl (hF.t rfl)) fun a hF => ?_)
  refine wpList_stp (stp_make (n := M) hF (wanted_none rfl) rfl rfl rfl Tryd.underlying22 Tryd.ty5 rfl (hF.t rfl) (hF.t rfl) (by omega) (by omega) hS fun zb a w hF hS => ?_)
  rw [zblk] at hS
  refine wpList_stp (stp_gv hF (wanted_none rfl) rfl rfl (gv_assign rfl (hF.t rfl)) fun a hF => ?_)
  refine wpList_nil ?_
  refine then_normal (hKq8 _ _ ?_)
  refine wp_seq_k fun Kq9 hKq9 => ?_
  -- region 8 (law.go:232)
  refine wp_region_lit ?_
  refine wpList_stp (stp_gv hF (wanted_none rfl) rfl rfl (gv_move rfl (hF.t rfl)) fun a hF => ?_)
  refine wpList_stp (stp_gv hF (wanted_none rfl) rfl rfl (gv_move rfl (hF.t rfl)) fun a hF => ?_)
  refine wpList_stp (stp_gv hF (wanted_none rfl) rfl rfl (gv_convStr rfl Tryd.underlying22 Tryd.underlying5 Tryd.underlying9 (hF.t rfl) (rd_blkB hS List.mem_cons_self List.length_replicate (by omega))) fun a hF => ?_)
  refine wpList_stp (stp_gv hF (wanted_none rfl) rfl rfl (gv_build rfl (EvP.map (EvP.cons (hF.t rfl) EvP.nil)) (build_rec01 _ _)) fun a hF => ?_)
  replace hS : St w0 w (⟨true, some v, vltO d 0 1⟩ :: ⟨true, some d, dskO p n n (newF n)⟩ :: ⟨true, some p, datO (newF n) []⟩ :: [⟨true, some zb, blkB 5 (List.replicate M (0 : UInt8))⟩, ⟨true, some r8, recO [] [] false⟩]) := ((hS.move (k := 4) rfl).move (k := 4) rfl).move (k := 4) rfl
  refine wpList_stp (stp_call hF (wanted_none rfl) rfl rfl Tryd.ok30 rfl (Evs.cons (hF.t rfl) (Evs.cons (hF.t rfl) Evs.nil)) (save_ok (V := ⟨0, 1⟩) (al := (List.replicate M (0 : UInt8))) (cl := []) (pp := false) hG (nw_cons rfl (nw_cons rfl nw_nil)) hS (new_ok hn4 (by omega)) (by decide) (by rw [List.length_replicate]; omega) (by decide)) fun e w h => ?_)
  obtain ⟨rfl, hS⟩ := h
  refine ⟨_, rfl, fun a hF => ?_⟩
  obtain ⟨SV, hSV⟩ : ∃ SV, SV = saveF ⟨0, 1⟩ (newF n) n ⟨(List.replicate M (0 : UInt8)), [], false⟩ := ⟨_, rfl⟩
  rw [← hSV] at hF hS
  obtain ⟨e1, V1, D1⟩ := SV
  have hrl : (recB (List.replicate M (0 : UInt8)) [] false).length = M + 9 := by rw [recB_len, List.length_replicate]; rfl
  refine wpList_stp (stp_gv hF (wanted_none rfl) rfl rfl (gv_assign rfl (hF.t rfl)) fun a hF => ?_)
  refine wpList_nil ?_
  refine then_normal (hKq9 _ _ ?_)
  refine wp_seq_k fun Kq10 hKq10 => ?_
  refine wp_seq_k fun Kq11 hKq11 => ?_
  -- region 9 (law.go:233)
  refine wp_region_lit ?_
  refine wpList_stp (stp_gv hF (wanted_none rfl) rfl rfl (gv_move rfl (hF.t rfl)) fun a hF => ?_)
  refine wpList_stp (stp_gv hF (wanted_none rfl) rfl rfl (gv_nadd (n := 9) rfl (hF.t rfl) rfl (by omega)) fun a hF => ?_)
  refine wpList_stp (stp_gv hF (wanted_none rfl) rfl rfl (gv_move rfl (hF.t rfl)) fun a hF => ?_)
  refine wpList_stp (stp_gv hF (wanted_none rfl) rfl rfl (gv_nquo (n := 2) rfl (hF.t rfl) rfl (by omega) (by omega)) fun a hF => ?_)
  refine wpList_stp (stp_gv hF (wanted_none rfl) rfl rfl (gv_nsub (n := 1) rfl (hF.t rfl) rfl (by omega) (by omega)) fun a hF => ?_)
  refine wpList_stp (stp_gv hF (wanted_none rfl) rfl rfl (gv_nmul (n := 64) rfl (hF.t rfl) rfl (by omega)) fun a hF => ?_)
  refine wpList_stp (stp_gv hF (wanted_none rfl) rfl rfl (gv_gtr rfl (hF.t rfl) (hF.t rfl)) fun a hF => ?_)
  refine wpList_nil ?_
  refine then_normal (hKq11 _ _ ?_)
  refine cond_dec (hF.t rfl) (fun h50 => ?_) (fun h50 => ?_)
  ·
    refine wp_seq_k fun Kq12 hKq12 => ?_
    have hf : saveF ⟨0, 1⟩ (newF n) n ⟨(List.replicate M (0 : UInt8)), [], false⟩ = (22, ⟨0, 1⟩, newF n) := saveF_full (.inl (.inl (by show _ < (recB (List.replicate M (0 : UInt8)) [] false).length; omega)))
    rw [hf, Prod.mk.injEq, Prod.mk.injEq] at hSV
    obtain ⟨rfl, rfl, rfl⟩ := hSV
    -- region 10 (law.go:234)
    refine Fw.wp_region_draw (by kernel_rfl) fun w hx => ?_
    replace hS := hS.ext hx
    clear hx
    refine run_headS (n := 13) _ [(4, 55, FlR ((List.replicate (64 * n) (0 : UInt8)).map vB)), (5, 56, FlE (sV (List.replicate (64 * n) (0 : UInt8)))), (8, 59, FlR (List.replicate (64 * n) (Value.int .u8 0))), (9, 60, FlE (sV (List.replicate (64 * n) (0 : UInt8)))), (10, 61, FlE (.bool true)), (11, 62, FlE (.bool true)), (12, 4, FlE (.bool true))] hF (by kernel_rfl) rfl (fa_cons rfl (fa_cons rfl (fa_cons rfl (fa_cons rfl (fa_cons rfl (fa_cons rfl (fa_cons rfl fa_nil))))))) (fa_cons (FlR.lasts _) (fa_cons (FlE.lasts _) (fa_cons (FlR.lasts _) (fa_cons (FlE.lasts _) (fa_cons (FlE.lasts _) (fa_cons (FlE.lasts _) (fa_cons (FlE.lasts _) fa_nil))))))) (fa_cons ⟨Nat.zero_le _, Nat.le_of_ble_eq_true rfl⟩ (fa_cons ⟨Nat.zero_le _, Nat.le_of_ble_eq_true rfl⟩ (fa_cons ⟨Nat.zero_le _, Nat.le_of_ble_eq_true rfl⟩ (fa_cons ⟨Nat.zero_le _, Nat.le_of_ble_eq_true rfl⟩ (fa_cons ⟨Nat.zero_le _, Nat.le_of_ble_eq_true rfl⟩ (fa_cons ⟨Nat.zero_le _, Nat.le_of_ble_eq_true rfl⟩ (fa_cons ⟨Nat.zero_le _, Nat.le_of_ble_eq_true rfl⟩ fa_nil))))))) rfl ?_
    refine dw_gv hF rfl (wanted_none rfl) rfl rfl (fun w hx => gv_move rfl (hF.t rfl)) fun a hF => ?_
    refine dw_gv hF rfl (wanted_none rfl) rfl rfl (fun w hx => gv_eqlT rfl (hF.t rfl) (ev_const _ _) (rfl)) fun a hF => ?_
    refine dw_gv hF rfl (wanted_none rfl) rfl rfl (fun w hx => gv_move rfl (hF.t rfl)) fun a hF => ?_
    refine dw_gv hF rfl (wanted_of hF rfl rfl (rfl)) rfl rfl (fun w hx => gv_move rfl (hF.t rfl)) fun a hF => ?_
    refine dw_fl rfl ?_
    refine dw_fl rfl ?_
    refine dw_gv hF rfl (wanted_of hF rfl rfl (rfl)) rfl rfl (fun w hx => gv_move rfl (hF.t rfl)) fun a hF => ?_
    refine dw_gv hF rfl (wanted_of hF rfl rfl (rfl)) rfl rfl (fun w hx => gv_nmul (m := 64) rfl rfl (hF.t rfl) (by omega)) fun a hF => ?_
    refine dw_fl rfl ?_
    refine dw_fl rfl ?_
    refine dw_fl rfl ?_
    refine dw_fl rfl ?_
    refine dw_fl rfl ?_
    refine dw_nil ⟨(fa_cons ?_ (fa_cons ?_ (fa_cons ?_ (fa_cons ?_ (fa_cons ?_ (fa_cons ?_ (fa_cons ?_ fa_nil))))))), fun a w hx hA hR => ?_⟩
    · intro a w hx hA hdp
      replace hF := hA _ hF
      replace hS := hS.ext hx
      exact ⟨_, rfl, sx_call (wanted_of hF rfl rfl (rfl)) Tryd.ok34 rfl (Evs.cons (hF.t rfl) Evs.nil) ((image_ok (dskW_of (k := 1) (k' := 2) hS rfl rfl) (new_ok hn4 (by omega)).len (by omega)).mono fun e w' ⟨o, op, he, ho, hc, hS2⟩ => ⟨_, he, (own_rd (w0 := _) (t := 5) (ob := o) (l := (newF n).l) (pad := op) (T := [⟨true, o, blk 5 ((newF n).l.map vB ++ op)⟩]) List.mem_cons_self ho rfl hc) w' _ hS2 (nw_cons rfl nw_nil) (fun e he => he), hS2.toExt (nw_cons rfl nw_nil)⟩)⟩
    · intro a w hx hA hdp
      replace hF := hA _ hF
      replace hS := hS.ext hx
      exact ⟨_, rfl, sx_gv (wanted_of hF rfl rfl (rfl)) (gv_convStr rfl Tryd.underlying22 Tryd.underlying5 Tryd.underlying9 (hF.t rfl) (hdp _ (List.mem_of_getElem? (i := 0) rfl) (by kernel_rfl))) rfl⟩
    · intro a w hx hA hdp
      replace hF := hA _ hF
      replace hS := hS.ext hx
      exact ⟨_, rfl, ⟨(wanted_of hF rfl rfl (rfl)), fo_makeR rfl Tryd.underlying22 Tryd.ty5 rfl (hF.t rfl) (hF.t rfl) (by omega) (by omega) _ (Ext.refl _)⟩⟩
    · intro a w hx hA hdp
      replace hF := hA _ hF
      replace hS := hS.ext hx
      exact ⟨_, rfl, sx_gv (wanted_of hF rfl rfl (rfl)) (gv_convStr rfl Tryd.underlying22 Tryd.underlying5 Tryd.underlying9 (hF.t rfl) (rep_rd (hdp _ (List.mem_of_getElem? (i := 2) rfl) (by kernel_rfl)))) rfl⟩
    · intro a w hx hA hdp
      replace hF := hA _ hF
      replace hS := hS.ext hx
      exact ⟨_, rfl, sx_gv (wanted_of hF rfl rfl (rfl)) (gv_strEqlT rfl ((hF.t rfl).trans (hdp _ (List.mem_of_getElem? (i := 1) rfl) (by kernel_rfl))) ((hF.t rfl).trans (hdp _ (List.mem_of_getElem? (i := 3) rfl) (by kernel_rfl))) rfl) rfl⟩
    · intro a w hx hA hdp
      replace hF := hA _ hF
      replace hS := hS.ext hx
      exact ⟨_, rfl, sx_gv (wanted_none rfl) (gv_pickT rfl (hF.t rfl) ((hF.t rfl).trans (hdp _ (List.mem_of_getElem? (i := 4) rfl) (by kernel_rfl)))) rfl⟩
    · intro a w hx hA hdp
      replace hF := hA _ hF
      replace hS := hS.ext hx
      exact ⟨_, rfl, sx_gv (wanted_none rfl) (gv_assign rfl ((hF.t rfl).trans (hdp _ (List.mem_of_getElem? (i := 5) rfl) (by kernel_rfl)))) rfl⟩
    replace hF := hA _ hF
    replace hS := hS.ext hx
    have h12 := hR _ (List.mem_of_getElem? (i := 6) rfl)
    replace hF : Fr 92 a [(4, .bool true)] := hF.sub ⟨congrArg some h12, trivial⟩
    clear hA hx hR h12
    refine run_done (by decide) ?_
    refine then_normal (hKq12 _ _ ?_)
    refine wp_ret ?_
    refine then_ret ?_
    refine ret1 (fn := Tryd.f9) (t := 4) hF rfl rfl ?_
    exact ⟨rfl, hS.toExt (nw_cons rfl (nw_cons rfl (nw_cons rfl (nw_cons rfl (nw_cons rfl nw_nil)))))⟩
  ·
    refine wp_skip ?_
    refine then_normal (hKq10 _ _ ?_)
    refine wp_seq_k fun Kq13 hKq13 => ?_
    obtain ⟨V2, D2, hf⟩ := saveF_free (V := ⟨0, 1⟩) (r := ⟨(List.replicate M (0 : UInt8)), [], false⟩) (new_ok (n := n) hn4 (by omega)) (by decide) (by show (recB (List.replicate M (0 : UInt8)) [] false).length ≤ _; omega) (by show (List.replicate M (0 : UInt8)).length ≤ _; rw [List.length_replicate]; omega) (Nat.zero_le _) rfl rfl
    rw [hf, Prod.mk.injEq, Prod.mk.injEq] at hSV
    obtain ⟨rfl, rfl, rfl⟩ := hSV
    obtain ⟨hK1, _, _, _, ho1⟩ := first_save hn4 (by omega) hf
    -- region 11 (law.go:236)
    refine wp_region_lit ?_
    refine wpList_stp (stp_gv hF (wanted_none rfl) rfl rfl (gv_move rfl (hF.t rfl)) fun a hF => ?_)
    refine wpList_stp (stp_call hF (wanted_none rfl) rfl rfl Tryd.ok29 rfl (Evs.cons (hF.t rfl) Evs.nil) (open_ok (hG.ext (hS.toExt (nw_cons rfl (nw_cons rfl (nw_cons rfl (nw_cons rfl (nw_cons rfl nw_nil))))))) (dskW_of (k := 1) (k' := 2) hS rfl rfl) hK1) fun e w h => ?_)
    obtain ⟨v2, rfl, hN⟩ := h
    refine ⟨_, rfl, fun a hF => ?_⟩
    rw [ho1] at hF hN
    replace hS := hS.join hN (nw_cons rfl nw_nil)
    simp only [List.cons_append, List.nil_append] at hS
    clear hN
    refine wpList_stp (stp_gv hF (wanted_none rfl) rfl rfl (gv_move rfl (hF.t rfl)) fun a hF => ?_)
    refine wpList_stp (stp_gv hF (wanted_none rfl) rfl rfl (gv_extract rfl (hF.t rfl) rfl) fun a hF => ?_)
    refine wpList_stp (stp_gv hF (wanted_none rfl) rfl rfl (gv_extract rfl (hF.t rfl) rfl) fun a hF => ?_)
    refine wpList_stp (stp_gv hF (wanted_none rfl) rfl rfl (gv_extract rfl (hF.t rfl) rfl) fun a hF => ?_)
    refine wpList_stp (stp_alloc hF (wanted_none rfl) rfl rfl rfl Tryd.zv63 rfl hS fun r13 a w hF hS => ?_)
    refine wpList_stp (stp_gv hF (wanted_none rfl) rfl rfl (gv_assign rfl (hF.t rfl)) fun a hF => ?_)
    refine wpList_stp (stp_storeAll hF (wanted_none rfl) rfl rfl (Tryd.sz63.trans (congrArg some (rfl))) (hF.t rfl) (hF.t rfl) ((by intro u hu; simp at hu; rcases hu with rfl | rfl | rfl <;> rfl)) hS (k := 0) rfl (rfl) fun w hS => ?_)
    refine wpList_stp (stp_gv hF (wanted_none rfl) rfl rfl (gv_assign rfl (hF.t rfl)) fun a hF => ?_)
    refine wpList_nil ?_
    refine then_normal (hKq13 _ _ ?_)
    refine wp_seq_k fun Kq14 hKq14 => ?_
    -- region 12 (law.go:237)
    refine wp_region_lit ?_
    refine wpList_stp (stp_gv hF (wanted_none rfl) rfl rfl (gv_move rfl (hF.t rfl)) fun a hF => ?_)
    refine wpList_stp (stp_gv hF (wanted_none rfl) rfl rfl (gv_eqlT rfl (hF.t rfl) (ev_const _ _) (rfl)) fun a hF => ?_)
    refine wpList_stp (stp_gv hF (wanted_none rfl) rfl rfl (gv_move rfl (hF.t rfl)) fun a hF => ?_)
    refine wpList_stp (stp_gv hF (wanted_of hF rfl rfl (rfl)) rfl rfl (gv_move rfl (hF.t rfl)) fun a hF => ?_)
    refine wpList_stp (stp_gv hF (wanted_of hF rfl rfl (rfl)) rfl rfl (gv_eqlT rfl (hF.t rfl) (ev_const _ _) (rfl)) fun a hF => ?_)
    refine wpList_stp (stp_gv hF (wanted_none rfl) rfl rfl (gv_pickT rfl (hF.t rfl) (hF.t rfl)) fun a hF => ?_)
    refine wpList_stp (stp_gv hF (wanted_none rfl) rfl rfl (gv_move rfl (hF.t rfl)) fun a hF => ?_)
    refine wpList_stp (stp_gv hF (wanted_of hF rfl rfl (rfl)) rfl rfl (gv_field (r := 0) rfl Tryd.underlying63 rfl rfl Tryd.sz9 (by decide) (hF.t rfl)) fun a hF => ?_)
    refine wpList_stp (stp_gv hF (wanted_of hF rfl rfl (rfl)) rfl rfl (gv_load rfl Tryd.underlying9 rfl (hF.t rfl) (cell_ix (j := 0) (hS.cell (k := 0) rfl (rfl)) (by omega))) fun a hF => ?_)
    refine wpList_stp (stp_gv hF (wanted_of hF rfl rfl (rfl)) rfl rfl (gv_move rfl (hF.t rfl)) fun a hF => ?_)
    refine wpList_stp (stp_gv hF (wanted_of hF rfl rfl (rfl)) rfl rfl (gv_convStr rfl Tryd.underlying22 Tryd.underlying5 Tryd.underlying9 (hF.t rfl) (rd_blkB (l := (List.replicate M (0 : UInt8))) hS (List.mem_of_getElem? (i := 5) rfl) List.length_replicate (by omega))) fun a hF => ?_)
    refine wpList_stp (stp_gv hF (wanted_of hF rfl rfl (rfl)) rfl rfl (gv_strEqlT (l := (List.replicate M (0 : UInt8))) rfl (hF.t rfl) (hF.t rfl) rfl) fun a hF => ?_)
    refine wpList_stp (stp_gv hF (wanted_none rfl) rfl rfl (gv_pickT rfl (hF.t rfl) (hF.t rfl)) fun a hF => ?_)
    refine wpList_stp (stp_gv hF (wanted_none rfl) rfl rfl (gv_move rfl (hF.t rfl)) fun a hF => ?_)
    refine wpList_stp (stp_gv hF (wanted_of hF rfl rfl (rfl)) rfl rfl (gv_field (r := 1) rfl Tryd.underlying63 rfl rfl Tryd.sz9 (by decide) (hF.t rfl)) fun a hF => ?_)
    refine wpList_stp (stp_gv hF (wanted_of hF rfl rfl (rfl)) rfl rfl (gv_load rfl Tryd.underlying9 rfl (hF.t rfl) (cell_ix (j := 1) (hS.cell (k := 0) rfl (rfl)) (by omega))) fun a hF => ?_)
    refine wpList_stp (stp_gv hF (wanted_of hF rfl rfl (rfl)) rfl rfl (gv_strEqlT (l := []) (l' := []) rfl (hF.t rfl) rfl rfl) fun a hF => ?_)
    refine wpList_stp (stp_gv hF (wanted_none rfl) rfl rfl (gv_pickT rfl (hF.t rfl) (hF.t rfl)) fun a hF => ?_)
    refine wpList_stp (stp_gv hF (wanted_none rfl) rfl rfl (gv_move rfl (hF.t rfl)) fun a hF => ?_)
    refine wpList_stp (stp_gv hF (wanted_of hF rfl rfl (rfl)) rfl rfl (gv_field (r := 2) rfl Tryd.underlying63 rfl rfl Tryd.sz4 (by decide) (hF.t rfl)) fun a hF => ?_)
    refine wpList_stp (stp_gv hF (wanted_of hF rfl rfl (rfl)) rfl rfl (gv_load rfl Tryd.underlying4 rfl (hF.t rfl) (cell_ix (j := 2) (hS.cell (k := 0) rfl (rfl)) (by omega))) fun a hF => ?_)
    refine wpList_stp (stp_gv hF (wanted_of hF rfl rfl (rfl)) rfl rfl (gv_not rfl (hF.t rfl)) fun a hF => ?_)
    refine wpList_stp (stp_gv hF (wanted_none rfl) rfl rfl (gv_pickT rfl (hF.t rfl) (hF.t rfl)) fun a hF => ?_)
    refine wpList_stp (stp_gv hF (wanted_none rfl) rfl rfl (gv_assign rfl (hF.t rfl)) fun a hF => ?_)
    refine wpList_nil ?_
    refine then_normal (hKq14 _ _ ?_)
    refine wp_ret ?_
    refine ret1 (fn := Tryd.f9) (t := 4) hF rfl rfl ?_
    exact ⟨rfl, hS.toExt (nw_cons rfl (nw_cons rfl (nw_cons rfl (nw_cons rfl (nw_cons rfl (nw_cons rfl (nw_cons rfl nw_nil)))))))⟩


end Go.Proofs.YtfhalnobaeogkaaDoor

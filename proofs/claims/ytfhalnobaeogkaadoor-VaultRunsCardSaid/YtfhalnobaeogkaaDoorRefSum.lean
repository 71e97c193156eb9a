/- What is proved: the contract of the reference hash: it is the hash of package digest. -/
import Derived.Test.YtfhalnobaeogkaaDoorProg
import Derived.Test.YtfhalnobaeogkaaDoorFwSep
import Derived.KernelRfl
import Derived.Test.YtfhalnobaeogkaaDoorFwSto
import Derived.Test.YtfhalnobaeogkaaDoorFwVlt
import Derived.Test.YtfhalnobaeogkaaDoorFwApp
import Derived.Test.YtfhalnobaeogkaaDoorFwWord
import Derived.Test.YtfhalnobaeogkaaDoorFwPkt
import Derived.Test.YtfhalnobaeogkaaDoorFwTok
import Derived.Test.YtfhalnobaeogkaaDoorDig
import Derived.Test.YtfhalnobaeogkaaDoorSum
import Derived.Test.YtfhalnobaeogkaaDoorWire
import Derived.Test.YtfhalnobaeogkaaDoorPktW
import Derived.Test.YtfhalnobaeogkaaDoorPktR
import Derived.Test.YtfhalnobaeogkaaDoorWireA
import Derived.Test.YtfhalnobaeogkaaDoorDisk
import Derived.Test.YtfhalnobaeogkaaDoorFwZer
import Derived.Test.YtfhalnobaeogkaaDoorHead
import Derived.Test.YtfhalnobaeogkaaDoorHalf
import Derived.Test.YtfhalnobaeogkaaDoorOpen
import Derived.Test.YtfhalnobaeogkaaDoorSave
import Derived.Test.YtfhalnobaeogkaaDoorVPure
import Derived.Test.YtfhalnobaeogkaaDoorRefH
set_option linter.unusedVariables false
set_option linter.unusedSimpArgs false
namespace Go.Proofs.YtfhalnobaeogkaaDoor
open Go Go.RowKit Go.Fw

theorem Tryd.sz147 : (Tryd.prog.info? 147).map (·.size) = some 12 := by kernel_rfl
theorem Tryd.ok84 : CallOk Tryd.prog 84 := ⟨_, Tryd.func84, by kernel_rfl, by kernel_rfl⟩
theorem Tryd.ok85 : CallOk Tryd.prog 85 := ⟨_, Tryd.func85, by kernel_rfl, by kernel_rfl⟩
theorem Tryd.ok86 : CallOk Tryd.prog 86 := ⟨_, Tryd.func86, by kernel_rfl, by kernel_rfl⟩


def X80 (l : List UInt32) : List Value := l.map v64 ++ List.replicate 16 (vD 0)
theorem x80_zero (p : List UInt8) : (List.replicate 80 (0 : UInt64)).map vD = X80 (w4 p 0) := by
  rw [X80, w4]; kernel_rfl
theorem x80_len (l : List UInt32) : (X80 l).length = l.length + 16 := by simp [X80]
theorem x80_at {l : List UInt32} {j q : Nat} (h : j = q) (hq : q < l.length) : (X80 l)[j]? = some (vD (l.getD q 0).toUInt64) := by
  subst h
  rw [X80, List.getElem?_append_left (by rw [List.length_map]; exact hq)]
  exact at64 hq
theorem x80_set {l : List UInt32} {j q : Nat} {x : UInt32} (h : j = q) (hq : q < l.length) : (X80 l).set j (vD x.toUInt64) = X80 (l.set q x) := by
  subst h
  rw [X80, X80, List.set_append, if_pos (by rw [List.length_map]; exact hq), set64]
theorem at64q {l : List UInt32} {j q : Nat} (h : j = q) (hq : q < l.length) : (l.map v64)[j]? = some (vD (l.getD q 0).toUInt64) := by
  subst h
  exact at64 hq
theorem toL_ofL {h : List UInt32} (hl : h.length = 8) : toL (ofL h) = h := by
  match h, hl with
  | [a, b, c, d, e, f, g, k], _ => rfl
theorem drop_getD {l : List UInt8} {o i : Nat} : l.getD (o + i) 0 = (l.drop o).getD i 0 := by
  rw [List.getD_eq_getElem?_getD, List.getD_eq_getElem?_getD, List.getElem?_drop]
theorem ld64 {PL : List UInt8} {j i : Nat} (hi : i < 64) : ((w4 (PL.drop (64 * j)) i).getD (i / 4) 0).toUInt64 * 256 + (PL.getD (64 * j + i) 0).toUInt64 = ((w4 (PL.drop (64 * j)) i).getD (i / 4) 0 <<< UInt32.ofNat 8 ||| ((PL.drop (64 * j)).getD i 0).toUInt32).toUInt64 := by
  rw [drop_getD, ld_step (w4_room hi)]


set_option maxHeartbeats 4000000 in
theorem rsum_ok {bv : Value} {bl : List UInt8} {w0 : World} (hb : Rd w0 bv (bl.map vB)) (hn : bl.length ≤ 1099511627776) :
    Calls Tryd.prog 64 #[bv, vI 32] w0 fun e w' => ∃ o op, e = .returned (.slice (some ⟨o, 0, none⟩) 32 (32 + op.length)) ∧ 32 + op.length ≤ 9223372036854775807 ∧ St w0 w' [⟨true, some o, blk 5 ((sum256 bl).map vB ++ op)⟩] := by
  obtain ⟨Ab, cb, rfl, hb1, hb2, hbc⟩ := hb.isB
  clear hbc
  refine calls_start 292 Tryd.func64 rfl Tryd.ntmps64 rfl fun a hF => ?_
  have hS := St.refl w0
  refine wp_seq_k fun Kq1 hKq1 => ?_
  -- region 0 (ref.go:56)
  refine wp_region_lit ?_
  refine wpList_stp (stp_gv hF (wanted_none rfl) rfl rfl (gv_assign rfl (ev_const _ _)) fun a hF => ?_)
  refine wpList_nil ?_
  refine then_normal (hKq1 _ _ ?_)
  refine wp_seq_k fun Kq2 hKq2 => ?_
  -- region 1 (ref.go:57)
  refine wp_region_lit ?_
  refine wpList_stp (stp_gv hF (wanted_none rfl) rfl rfl (gv_assign rfl (ev_const _ _)) fun a hF => ?_)
  refine wpList_stp (stp_gv hF (wanted_none rfl) rfl rfl (gv_assign rfl (ev_const _ _)) fun a hF => ?_)
  refine wpList_nil ?_
  refine then_normal (hKq2 _ _ ?_)
  refine wp_seq_k fun Kq3 hKq3 => ?_
  -- region 2 (ref.go:58)
  refine wp_region_lit ?_
  refine wpList_stp (stp_gv hF (wanted_none rfl) rfl rfl (gv_build rfl (EvP.map (EvP.cons (ev_const _ _) (EvP.cons (ev_const _ _) (EvP.cons (ev_const _ _) EvP.nil)))) (build_i3 1 8 7 _)) fun a hF => ?_)
  refine wpList_stp (stp_gv hF (wanted_none rfl) rfl rfl (gv_build rfl (EvP.map (EvP.cons (ev_const _ _) (EvP.cons (ev_const _ _) (EvP.cons (ev_const _ _) EvP.nil)))) (build_i3 19 61 6 _)) fun a hF => ?_)
  refine wpList_stp (stp_gv hF (wanted_none rfl) rfl rfl (gv_build rfl (EvP.map (EvP.cons (ev_const _ _) (EvP.cons (ev_const _ _) (EvP.cons (ev_const _ _) EvP.nil)))) (build_i3 14 18 41 _)) fun a hF => ?_)
  refine wpList_stp (stp_gv hF (wanted_none rfl) rfl rfl (gv_build rfl (EvP.map (EvP.cons (ev_const _ _) (EvP.cons (ev_const _ _) (EvP.cons (ev_const _ _) EvP.nil)))) (build_i3 28 34 39 _)) fun a hF => ?_)
  refine wpList_stp (stp_gv hF (wanted_none rfl) rfl rfl (gv_build rfl (EvP.map (EvP.cons (hF.t rfl) (EvP.cons (hF.t rfl) (EvP.cons (hF.t rfl) (EvP.cons (hF.t rfl) EvP.nil))))) (build_t12b _)) fun a hF => ?_)
  refine wpList_stp (stp_alloc hF (wanted_none rfl) rfl rfl rfl Tryd.zv147 rfl hS fun tb a w hF hS => ?_)
  refine wpList_stp (stp_storeAll hF (wanted_none rfl) rfl rfl (Tryd.sz147.trans (congrArg some (rfl))) (hF.t rfl) (hF.t rfl) (one_I _) hS (k := 0) rfl (rfl) fun w hS => ?_)
  refine wpList_nil ?_
  refine then_normal (hKq3 _ _ ?_)
  refine wp_seq_k fun Kq4 hKq4 => ?_
  refine wp_seq_k fun Kq5 hKq5 => ?_
  -- region 3 (ref.go:59)
  refine wp_region_lit ?_
  refine wpList_stp (stp_gv hF (wanted_none rfl) rfl rfl (gv_move rfl (hF.t rfl)) fun a hF => ?_)
  refine wpList_stp (stp_gv hF (wanted_none rfl) rfl rfl (gv_eqlT rfl (hF.t rfl) (ev_const _ _) (rfl)) fun a hF => ?_)
  refine wpList_nil ?_
  refine then_normal (hKq5 _ _ ?_)
  refine wp_cond_true (hF.t rfl) ?_
  refine wp_seq_k fun Kq6 hKq6 => ?_
  -- region 4 (ref.go:60)
  refine wp_region_lit ?_
  refine wpList_stp (stp_gv hF (wanted_none rfl) rfl rfl (gv_assign rfl (ev_const _ _)) fun a hF => ?_)
  refine wpList_nil ?_
  refine then_normal (hKq6 _ _ ?_)
  refine wp_seq_k fun Kq7 hKq7 => ?_
  -- region 5 (ref.go:61)
  refine wp_region_lit ?_
  refine wpList_stp (stp_gv hF (wanted_none rfl) rfl rfl (gv_assign rfl (ev_const _ _)) fun a hF => ?_)
  refine wpList_nil ?_
  refine then_normal (hKq7 _ _ ?_)
  -- region 6 (ref.go:62)
  refine wp_region_lit ?_
  refine wpList_stp (stp_gv hF (wanted_none rfl) rfl rfl (gv_build rfl (EvP.map (EvP.cons (ev_const _ _) (EvP.cons (ev_const _ _) (EvP.cons (ev_const _ _) EvP.nil)))) (build_i3 7 18 3 _)) fun a hF => ?_)
  refine wpList_stp (stp_gv hF (wanted_none rfl) rfl rfl (gv_build rfl (EvP.map (EvP.cons (ev_const _ _) (EvP.cons (ev_const _ _) (EvP.cons (ev_const _ _) EvP.nil)))) (build_i3 17 19 10 _)) fun a hF => ?_)
  refine wpList_stp (stp_gv hF (wanted_none rfl) rfl rfl (gv_build rfl (EvP.map (EvP.cons (ev_const _ _) (EvP.cons (ev_const _ _) (EvP.cons (ev_const _ _) EvP.nil)))) (build_i3 6 11 25 _)) fun a hF => ?_)
  refine wpList_stp (stp_gv hF (wanted_none rfl) rfl rfl (gv_build rfl (EvP.map (EvP.cons (ev_const _ _) (EvP.cons (ev_const _ _) (EvP.cons (ev_const _ _) EvP.nil)))) (build_i3 2 13 22 _)) fun a hF => ?_)
  refine wpList_stp (stp_gv hF (wanted_none rfl) rfl rfl (gv_build rfl (EvP.map (EvP.cons (hF.t rfl) (EvP.cons (hF.t rfl) (EvP.cons (hF.t rfl) (EvP.cons (hF.t rfl) EvP.nil))))) (build_t12 _)) fun a hF => ?_)
  refine wpList_stp (stp_storeAll hF (wanted_none rfl) rfl rfl (Tryd.sz147.trans (congrArg some (rfl))) (hF.t rfl) (hF.t rfl) (one_I _) hS (k := 0) rfl (rfl) fun w hS => ?_)
  refine wpList_nil ?_
  refine then_normal (hKq4 _ _ ?_)
  refine wp_seq_k fun Kq8 hKq8 => ?_
  -- region 7 (ref.go:64)
  refine wp_region_lit ?_
  refine wpList_stp (stp_gv hF (wanted_none rfl) rfl rfl (gv_move rfl (hF.t rfl)) fun a hF => ?_)
  refine wpList_stp (stp_gv hF (wanted_none rfl) rfl rfl (gv_nmul (m := 2) rfl rfl (hF.t rfl) (by omega)) fun a hF => ?_)
  refine wpList_stp (stp_gv hF (wanted_none rfl) rfl rfl (gv_assign rfl (hF.t rfl)) fun a hF => ?_)
  refine wpList_nil ?_
  refine then_normal (hKq8 _ _ ?_)
  refine wp_seq_k fun Kq9 hKq9 => ?_
  -- region 8 (ref.go:65)
  refine wp_region_lit ?_
  refine wpList_stp (stp_gv hF (wanted_none rfl) rfl rfl (gv_move rfl (hF.t rfl)) fun a hF => ?_)
  replace hS := hS.addNil (blk 5 (([] : List UInt8).map vB ++ []))
  refine wpList_stp (stp_appB (ob := none) (l := []) (pad := []) (k := 0) hF (wanted_none rfl) rfl rfl rfl Tryd.underlying22 Tryd.ty5 rfl (ev_const _ _) (hF.t rfl) hS rfl (fun _ => ⟨rfl, rfl⟩) (by simp) (hb.ext (hS.toExt (nw_cons rfl (nw_cons rfl nw_nil)))) (by simp; omega) fun o op a w hF oo oc hS => ?_)
  simp only [List.nil_append] at hF oo oc hS
  refine wpList_stp (stp_build1 (v := 128) hF (wanted_none rfl) rfl rfl rfl Tryd.underlying22 Tryd.ty5 rfl hS fun zb a w hF hS => ?_)
  refine wpList_stp (stp_app1 (k := 0) hF (wanted_none rfl) rfl rfl rfl Tryd.underlying22 Tryd.ty5 rfl (hF.t rfl) (hF.t rfl) hS rfl oo oc (by omega) fun o op a w hF oo oc hS => ?_)
  refine wpList_stp (stp_gv hF (wanted_none rfl) rfl rfl (gv_assign rfl (hF.t rfl)) fun a hF => ?_)
  refine wpList_nil ?_
  refine then_normal (hKq9 _ _ ?_)
  refine wp_seq_k fun Kq10 hKq10 => ?_
  refine wp_block ?_
  rw [c1_zero] at hF oo oc hS
  have hz0 := pz_lt bl.length
  refine wp_loop_n (fun n a w => ∃ (z : Nat) (o : Option Nat) (op : List Value), z ≤ pz bl.length ∧ n = pz bl.length - z ∧ (o = none → (c1 bl z) = [] ∧ op = []) ∧ ((c1 bl z)).length + op.length ≤ 9223372036854775807 ∧ Fr 292 a [(0, .slice Ab bl.length cb), (1, vI 32), (5, vI 64), (6, vD 4294967295), (7, .pointer (some ⟨tb, 0, none⟩)), (8, vI 64), (9, ownV o (c1 bl z).length ((c1 bl z).length + op.length))] ∧ St w0 w [⟨true, o, blk 5 ((c1 bl z).map vB ++ op)⟩, ⟨true, some tb, blk 147 (T12.map vI)⟩]) (pz bl.length) ⟨0, o, op, by omega, by omega, oo, oc, hF.sub ⟨rfl, rfl, rfl, rfl, rfl, rfl, rfl, trivial⟩, hS⟩ ?_
  rintro n a w ⟨z, o, op, hz, hn1, oo, oc, hF, hS⟩
  have hzl := c1_len bl z
  refine wp_seq_k fun Kq11 hKq11 => ?_
  refine wp_seq_k fun Kq12 hKq12 => ?_
  -- region 9 (ref.go:66)
  refine wp_region_lit ?_
  refine wpList_stp (stp_gv hF (wanted_none rfl) rfl rfl (gv_move rfl (hF.t rfl)) fun a hF => ?_)
  refine wpList_stp (stp_gv hF (wanted_none rfl) rfl rfl (gv_lenOwn rfl Tryd.underlying22 (hF.t rfl) (fun h => by rw [(oo h).1]; rfl)) fun a hF => ?_)
  refine wpList_stp (stp_gv hF (wanted_none rfl) rfl rfl (gv_move rfl (hF.t rfl)) fun a hF => ?_)
  refine wpList_stp (stp_gv hF (wanted_none rfl) rfl rfl (gv_nquo (n := 4) rfl (hF.t rfl) rfl (by omega) (by omega)) fun a hF => ?_)
  refine wpList_stp (stp_gv hF (wanted_none rfl) rfl rfl (gv_nadd rfl (hF.t rfl) (hF.t rfl) (by omega)) fun a hF => ?_)
  refine wpList_stp (stp_gv hF (wanted_none rfl) rfl rfl (gv_move rfl (hF.t rfl)) fun a hF => ?_)
  refine wpList_stp (stp_gv hF (wanted_none rfl) rfl rfl (gv_nrem rfl (hF.t rfl) (hF.t rfl) (by omega)) fun a hF => ?_)
  refine wpList_stp (stp_gv hF (wanted_none rfl) rfl rfl (gv_neq rfl (hF.t rfl) (ev_const _ _)) fun a hF => ?_)
  refine wpList_nil ?_
  refine then_normal (hKq12 _ _ ?_)
  refine cond_dec (hF.t rfl) (fun h52 => ?_) (fun h52 => ?_)
  ·
    refine wp_skip ?_
    refine then_normal (hKq11 _ _ ?_)
    refine wp_block ?_
    -- region 10 (ref.go:67)
    refine wp_region_lit ?_
    refine wpList_stp (stp_gv hF (wanted_none rfl) rfl rfl (gv_move rfl (hF.t rfl)) fun a hF => ?_)
    refine wpList_stp (stp_build1 (v := 0) hF (wanted_none rfl) rfl rfl rfl Tryd.underlying22 Tryd.ty5 rfl hS fun zb a w hF hS => ?_)
    refine wpList_stp (stp_app1 (k := 0) hF (wanted_none rfl) rfl rfl rfl Tryd.underlying22 Tryd.ty5 rfl (hF.t rfl) (hF.t rfl) hS rfl oo oc (by omega) fun o op a w hF oo oc hS => ?_)
    refine wpList_stp (stp_gv hF (wanted_none rfl) rfl rfl (gv_assign rfl (hF.t rfl)) fun a hF => ?_)
    refine wpList_nil ?_
    refine block_normal ?_
    refine then_normal ?_
    rw [c1_succ] at hF oo oc hS
    have hlt : z < pz bl.length := by unfold pz at *; omega
    exact ⟨n - 1, by omega, z + 1, o, op, by omega, by omega, oo, oc, hF.sub ⟨rfl, rfl, rfl, rfl, rfl, rfl, rfl, trivial⟩, hS⟩
  ·
    refine wp_exit ?_
    refine then_exit ?_
    refine then_exit ?_
    refine block_exit ?_
    refine then_normal (hKq10 _ _ ?_)
    refine wp_seq_k fun Kq13 hKq13 => ?_
    obtain rfl : z = pz bl.length := by unfold pz at *; omega
    -- region 11 (ref.go:69)
    refine wp_region_lit ?_
    refine wpList_stp (stp_gv hF (wanted_none rfl) rfl rfl (gv_move rfl (hF.t rfl)) fun a hF => ?_)
    refine wpList_stp (stp_gv hF (wanted_none rfl) rfl rfl (gv_move rfl (hF.t rfl)) fun a hF => ?_)
    refine wpList_stp (stp_gv hF (wanted_none rfl) rfl rfl (gv_nquo (n := 4) rfl (hF.t rfl) rfl (by omega) (by omega)) fun a hF => ?_)
    refine wpList_stp (stp_appZ (k := 0) (n := 8) hF (wanted_none rfl) rfl rfl rfl Tryd.underlying22 Tryd.underlying3 Tryd.underlying9 Tryd.ty5 (hF.t rfl) (hF.t rfl) (by decide) hS rfl oo oc (by omega) fun o op a w hF oo oc hS => ?_)
    refine wpList_stp (stp_gv hF (wanted_none rfl) rfl rfl (gv_assign rfl (hF.t rfl)) fun a hF => ?_)
    refine wpList_nil ?_
    refine then_normal (hKq13 _ _ ?_)
    refine wp_seq_k fun Kq14 hKq14 => ?_
    rw [TX_zero] at hF oo oc hS
    -- region 12 (ref.go:70)
    refine wp_region_lit ?_
    refine wpList_stp (stp_gv hF (wanted_none rfl) rfl rfl (gv_move rfl (hF.t rfl)) fun a hF => ?_)
    refine wpList_stp (stp_gv hF (wanted_none rfl) rfl rfl (gv_len rfl Tryd.underlying22 (hF.t rfl)) fun a hF => ?_)
    refine wpList_stp (stp_gv hF (wanted_none rfl) rfl rfl (gv_conv_i_d rfl Tryd.underlying3 Tryd.underlying76 (hF.t rfl)) fun a hF => ?_)
    refine wpList_stp (stp_gv hF (wanted_none rfl) rfl rfl (gv_d_mul (n := 8) rfl (hF.t rfl) rfl) fun a hF => ?_)
    refine wpList_stp (stp_gv hF (wanted_none rfl) rfl rfl (gv_assign rfl (hF.t rfl)) fun a hF => ?_)
    refine wpList_nil ?_
    refine then_normal (hKq14 _ _ ?_)
    refine wp_seq_k fun Kq15 hKq15 => ?_
    refine wp_seq_k fun Kq16 hKq16 => ?_
    -- region 13 (ref.go:71)
    refine wp_region_lit ?_
    refine wpList_stp (stp_gv hF (wanted_none rfl) rfl rfl (gv_assign rfl (ev_const _ _)) fun a hF => ?_)
    refine wpList_nil ?_
    refine then_normal (hKq16 _ _ ?_)
    refine wp_block ?_
    obtain ⟨o, rfl⟩ := own_some oo (by rw [TX_len _ _ (by omega)]; omega)
    obtain ⟨NL, hNL⟩ : ∃ NL, NL = (padF bl).length := ⟨_, rfl⟩
    have hT : ∀ q, q ≤ 8 → (TX bl q).length = NL := fun q hq0 => by rw [TX_len _ _ hq0, hNL, ← TX_pad, TX_len _ _ (Nat.le_refl 8)]
    rw [hT 0 (by omega)] at hF oc
    have hNb : 9 ≤ NL ∧ NL ≤ 2199023255552 := by rw [hNL, padF_len]; have := pz_lt bl.length; omega
    refine wp_loop_n (fun q1 a w => ∃ q, q ≤ 8 ∧ q1 = 8 - q ∧ Fr 292 a [(1, vI 32), (5, vI 64), (6, vD 4294967295), (7, .pointer (some ⟨tb, 0, none⟩)), (8, vI 64), (9, .slice (some ⟨o, 0, none⟩) NL (NL + op.length)), (10, vD (UInt64.ofNat bl.length * 8)), (11, vI q)] ∧ St w0 w [⟨true, some o, blk 5 ((TX bl q).map vB ++ op)⟩, ⟨true, some tb, blk 147 (T12.map vI)⟩]) 8 ⟨0, by omega, by omega, hF.sub ⟨rfl, rfl, rfl, rfl, rfl, rfl, rfl, rfl, trivial⟩, hS⟩ ?_
    rintro q1 a w ⟨q, hq0, hq1, hF, hS⟩
    refine wp_seq_k fun Kq17 hKq17 => ?_
    refine wp_seq_k fun Kq18 hKq18 => ?_
    -- region 14 (ref.go:71)
    refine wp_region_lit ?_
    refine wpList_stp (stp_gv hF (wanted_none rfl) rfl rfl (gv_move rfl (hF.t rfl)) fun a hF => ?_)
    refine wpList_stp (stp_gv hF (wanted_none rfl) rfl rfl (gv_lss rfl (hF.t rfl) (ev_const _ _)) fun a hF => ?_)
    refine wpList_nil ?_
    refine then_normal (hKq18 _ _ ?_)
    refine cond_dec (hF.t rfl) (fun h65 => ?_) (fun h65 => ?_)
    ·
      refine wp_skip ?_
      refine then_normal (hKq17 _ _ ?_)
      refine wp_seq_k fun Kq19 hKq19 => ?_
      refine wp_block ?_
      -- region 16 (ref.go:72)
      refine wp_region_lit ?_
      refine wpList_stp (stp_gv hF (wanted_none rfl) rfl rfl (gv_move rfl (hF.t rfl)) fun a hF => ?_)
      refine wpList_stp (stp_gv hF (wanted_none rfl) rfl rfl (gv_move rfl (hF.t rfl)) fun a hF => ?_)
      refine wpList_stp (stp_gv hF (wanted_none rfl) rfl rfl (gv_len rfl Tryd.underlying22 (hF.t rfl)) fun a hF => ?_)
      refine wpList_stp (stp_gv hF (wanted_none rfl) rfl rfl (gv_nsub (n := 1) rfl (hF.t rfl) rfl (by omega) (by omega)) fun a hF => ?_)
      refine wpList_stp (stp_gv hF (wanted_none rfl) rfl rfl (gv_move rfl (hF.t rfl)) fun a hF => ?_)
      refine wpList_stp (stp_gv hF (wanted_none rfl) rfl rfl (gv_nsub rfl (hF.t rfl) (hF.t rfl) (by omega) (by omega)) fun a hF => ?_)
      refine wpList_stp (stp_gv hF (wanted_none rfl) rfl rfl (gv_move rfl (hF.t rfl)) fun a hF => ?_)
      refine wpList_stp (stp_gv hF (wanted_none rfl) rfl rfl (gv_move rfl (hF.t rfl)) fun a hF => ?_)
      refine wpList_stp (stp_gv hF (wanted_none rfl) rfl rfl (gv_nmul (m := 8) rfl rfl (hF.t rfl) (by omega)) fun a hF => ?_)
      refine wpList_stp (stp_gv hF (wanted_none rfl) rfl rfl (gv_d_shr rfl (hF.t rfl) (hF.t rfl) (by omega)) fun a hF => ?_)
      refine wpList_stp (stp_gv hF (wanted_none rfl) rfl rfl (gv_conv_d_b rfl Tryd.underlying76 Tryd.underlying5 (hF.t rfl)) fun a hF => ?_)
      refine wpList_stp (stp_gv hF (wanted_none rfl) rfl rfl (gv_indexSl rfl Tryd.underlying22 Tryd.sz5 (hF.t rfl) (hF.t rfl) (by omega)) fun a hF => ?_)
      refine wpList_stp (stp_storeAt (NL - 1 - q) hF (wanted_none rfl) rfl rfl Tryd.sz5 (hF.t rfl) (by omega) (hF.t rfl) rfl hS (k := 0) rfl (by rw [List.length_append, List.length_map, hT q (by omega)]; omega) fun w hS => ?_)
      rw [own_set (by rw [hT q (by omega)]; omega), ← hT q (by omega), TX_set _ _ (by omega)] at hS
      refine wpList_nil ?_
      refine block_normal ?_
      refine then_normal (hKq19 _ _ ?_)
      -- region 15 (ref.go:71)
      refine wp_region_lit ?_
      refine wpList_stp (stp_gv hF (wanted_none rfl) rfl rfl (gv_move rfl (hF.t rfl)) fun a hF => ?_)
      refine wpList_stp (stp_gv hF (wanted_none rfl) rfl rfl (gv_nadd (n := 1) rfl (hF.t rfl) rfl (by omega)) fun a hF => ?_)
      refine wpList_stp (stp_gv hF (wanted_none rfl) rfl rfl (gv_assign rfl (hF.t rfl)) fun a hF => ?_)
      refine wpList_nil ?_
      refine then_normal ?_
      exact ⟨q1 - 1, by omega, q + 1, by omega, by omega, hF.sub ⟨rfl, rfl, rfl, rfl, rfl, rfl, rfl, rfl, trivial⟩, hS⟩
    ·
      refine wp_exit ?_
      refine then_exit ?_
      refine then_exit ?_
      refine block_exit ?_
      refine then_normal (hKq15 _ _ ?_)
      refine wp_seq_k fun Kq20 hKq20 => ?_
      obtain rfl : q = 8 := by omega
      obtain ⟨PL, hPL⟩ : ∃ PL, PL = padF bl := ⟨_, rfl⟩
      rw [TX_pad, ← hPL] at hS
      rw [← hPL] at hNL
      subst hNL
      -- region 17 (ref.go:74)
      refine wp_region_lit ?_
      refine wpList_stp (stp_call hF (wanted_none rfl) rfl rfl Tryd.ok84 rfl Evs.nil (squares_ok) fun e w h => ?_)
      obtain ⟨rfl, hx⟩ := h
      refine ⟨_, rfl, fun a hF => ?_⟩
      replace hS := hS.ext hx
      clear hx
      refine wpList_stp (stp_alloc hF (wanted_none rfl) rfl rfl rfl Tryd.zv148 rfl hS fun hh a w hF hS => ?_)
      refine wpList_stp (stp_storeAll hF (wanted_none rfl) rfl rfl (Tryd.sz148.trans (congrArg some (rfl))) (hF.t rfl) (hF.t rfl) (one_D _) hS (k := 0) rfl (rfl) fun w hS => ?_)
      refine wpList_nil ?_
      refine then_normal (hKq20 _ _ ?_)
      refine wp_seq_k fun Kq21 hKq21 => ?_
      -- region 18 (ref.go:75)
      refine wp_region_lit ?_
      refine wpList_stp (stp_call hF (wanted_none rfl) rfl rfl Tryd.ok85 rfl Evs.nil (roots_ok) fun e w h => ?_)
      obtain ⟨rfl, hx⟩ := h
      refine ⟨_, rfl, fun a hF => ?_⟩
      replace hS := hS.ext hx
      clear hx
      refine wpList_stp (stp_alloc hF (wanted_none rfl) rfl rfl rfl Tryd.zv150 rfl hS fun kk a w hF hS => ?_)
      refine wpList_stp (stp_storeAll hF (wanted_none rfl) rfl rfl (Tryd.sz150.trans (congrArg some (rfl))) (hF.t rfl) (hF.t rfl) (one_D _) hS (k := 0) rfl (rfl) fun w hS => ?_)
      refine wpList_nil ?_
      refine then_normal (hKq21 _ _ ?_)
      refine wp_seq_k fun Kq22 hKq22 => ?_
      refine wp_seq_k fun Kq23 hKq23 => ?_
      -- region 19 (ref.go:76)
      refine wp_region_lit ?_
      refine wpList_stp (stp_gv hF (wanted_none rfl) rfl rfl (gv_assign rfl (ev_const _ _)) fun a hF => ?_)
      refine wpList_nil ?_
      refine then_normal (hKq23 _ _ ?_)
      refine wp_block ?_
      refine wp_loop_n (fun q a w => ∃ i, i ≤ 8 ∧ q = 8 - i ∧ Fr 292 a [(1, vI 32), (5, vI 64), (6, vD 4294967295), (7, .pointer (some ⟨tb, 0, none⟩)), (8, vI 64), (9, .slice (some ⟨o, 0, none⟩) PL.length (PL.length + op.length)), (12, .pointer (some ⟨hh, 0, none⟩)), (13, .pointer (some ⟨kk, 0, none⟩)), (14, vI i)] ∧ St w0 w [⟨true, some kk, blkD 150 stepsL⟩, ⟨true, some hh, blkD 148 (hq i)⟩, ⟨true, some o, blk 5 (PL.map vB ++ op)⟩, ⟨true, some tb, blk 147 (T12.map vI)⟩]) 8 ⟨0, by omega, by omega, hF.sub ⟨rfl, rfl, rfl, rfl, rfl, rfl, rfl, rfl, rfl, trivial⟩, hS⟩ ?_
      rintro q a w ⟨i, hi, hq1, hF, hS⟩
      refine wp_seq_k fun Kq24 hKq24 => ?_
      refine wp_seq_k fun Kq25 hKq25 => ?_
      -- region 20 (ref.go:76)
      refine wp_region_lit ?_
      refine wpList_stp (stp_gv hF (wanted_none rfl) rfl rfl (gv_move rfl (hF.t rfl)) fun a hF => ?_)
      refine wpList_stp (stp_gv hF (wanted_none rfl) rfl rfl (gv_lss rfl (hF.t rfl) (ev_const _ _)) fun a hF => ?_)
      refine wpList_nil ?_
      refine then_normal (hKq25 _ _ ?_)
      refine cond_dec (hF.t rfl) (fun h83 => ?_) (fun h83 => ?_)
      ·
        refine wp_skip ?_
        refine then_normal (hKq24 _ _ ?_)
        refine wp_seq_k fun Kq26 hKq26 => ?_
        refine wp_block ?_
        -- region 22 (ref.go:77)
        refine wp_region_lit ?_
        refine wpList_stp (stp_gv hF (wanted_none rfl) rfl rfl (gv_move rfl (hF.t rfl)) fun a hF => ?_)
        refine wpList_stp (stp_gv hF (wanted_none rfl) rfl rfl (gv_move rfl (hF.t rfl)) fun a hF => ?_)
        refine wpList_stp (stp_gv hF (wanted_none rfl) rfl rfl (gv_indexArr rfl Tryd.underlying148 Tryd.sz76 (hF.t rfl) (hF.t rfl) (by omega)) fun a hF => ?_)
        refine wpList_stp (stp_gv hF (wanted_none rfl) rfl rfl (gv_load rfl Tryd.underlying76 rfl (hF.t rfl) (cell_ix (hS.cellD (k := 1) rfl (i) (by rw [hq_len]; omega)) (by omega))) fun a hF => ?_)
        refine wpList_stp (stp_gv hF (wanted_none rfl) rfl rfl (gv_move rfl (hF.t rfl)) fun a hF => ?_)
        refine wpList_stp (stp_gv hF (wanted_none rfl) rfl rfl (gv_nsub (m := 64) rfl rfl (hF.t rfl) (by omega) (by omega)) fun a hF => ?_)
        refine wpList_stp (stp_gv hF (wanted_none rfl) rfl rfl (gv_d_shr rfl (hF.t rfl) (hF.t rfl) (by omega)) fun a hF => ?_)
        refine wpList_stp (stp_gv hF (wanted_none rfl) rfl rfl (gv_indexArr rfl Tryd.underlying148 Tryd.sz76 (hF.t rfl) (hF.t rfl) (by omega)) fun a hF => ?_)
        refine wpList_stp (stp_storeD (i) hF (wanted_none rfl) rfl rfl Tryd.sz76 (hF.t rfl) (by omega) (hF.t rfl) hS (k := 1) rfl (by rw [hq_len]; omega) fun w hS => ?_)
        refine wpList_nil ?_
        refine block_normal ?_
        refine then_normal (hKq26 _ _ ?_)
        -- region 21 (ref.go:76)
        refine wp_region_lit ?_
        refine wpList_stp (stp_gv hF (wanted_none rfl) rfl rfl (gv_move rfl (hF.t rfl)) fun a hF => ?_)
        refine wpList_stp (stp_gv hF (wanted_none rfl) rfl rfl (gv_nadd (n := 1) rfl (hF.t rfl) rfl (by omega)) fun a hF => ?_)
        refine wpList_stp (stp_gv hF (wanted_none rfl) rfl rfl (gv_assign rfl (hF.t rfl)) fun a hF => ?_)
        refine wpList_nil ?_
        refine then_normal ?_
        exact ⟨q - 1, by omega, i + 1, by omega, by omega, hF.sub ⟨rfl, rfl, rfl, rfl, rfl, rfl, rfl, rfl, rfl, trivial⟩, hS⟩
      ·
        refine wp_exit ?_
        refine then_exit ?_
        refine then_exit ?_
        refine block_exit ?_
        refine then_normal (hKq22 _ _ ?_)
        refine wp_seq_k fun Kq27 hKq27 => ?_
        refine wp_seq_k fun Kq28 hKq28 => ?_
        -- region 23 (ref.go:79)
        refine wp_region_lit ?_
        refine wpList_stp (stp_gv hF (wanted_none rfl) rfl rfl (gv_assign rfl (ev_const _ _)) fun a hF => ?_)
        refine wpList_nil ?_
        refine then_normal (hKq28 _ _ ?_)
        refine wp_block ?_
        obtain ⟨M, hM⟩ : ∃ M, PL.length = 64 * M := ⟨_, by rw [hPL]; exact padF_mul bl⟩
        obtain rfl : i = 8 := by omega
        rw [show blkD 148 (hq 8) = blk 148 ((hsA PL 0).map v64) from congrArg (blk _) hq8v] at hS
        refine wp_loop_n (fun n a w => ∃ j, j ≤ M ∧ n = M - j ∧ Fr 292 a [(1, vI 32), (5, vI 64), (6, vD 4294967295), (7, .pointer (some ⟨tb, 0, none⟩)), (8, vI 64), (9, .slice (some ⟨o, 0, none⟩) PL.length (PL.length + op.length)), (12, .pointer (some ⟨hh, 0, none⟩)), (13, .pointer (some ⟨kk, 0, none⟩)), (15, vI (64 * j))] ∧ St w0 w [⟨true, some kk, blkD 150 stepsL⟩, ⟨true, some hh, blk 148 ((hsA PL j).map v64)⟩, ⟨true, some o, blk 5 (PL.map vB ++ op)⟩, ⟨true, some tb, blk 147 (T12.map vI)⟩]) M ⟨0, by omega, by omega, hF.sub ⟨rfl, rfl, rfl, rfl, rfl, rfl, rfl, rfl, rfl, trivial⟩, hS⟩ ?_
        rintro n a w ⟨j, hj, hq1, hF, hS⟩
        have hHl := hsA_len PL j
        refine wp_seq_k fun Kq29 hKq29 => ?_
        refine wp_seq_k fun Kq30 hKq30 => ?_
        -- region 24 (ref.go:79)
        refine wp_region_lit ?_
        refine wpList_stp (stp_gv hF (wanted_none rfl) rfl rfl (gv_move rfl (hF.t rfl)) fun a hF => ?_)
        refine wpList_stp (stp_gv hF (wanted_none rfl) rfl rfl (gv_move rfl (hF.t rfl)) fun a hF => ?_)
        refine wpList_stp (stp_gv hF (wanted_none rfl) rfl rfl (gv_len rfl Tryd.underlying22 (hF.t rfl)) fun a hF => ?_)
        refine wpList_stp (stp_gv hF (wanted_none rfl) rfl rfl (gv_lss rfl (hF.t rfl) (hF.t rfl)) fun a hF => ?_)
        refine wpList_nil ?_
        refine then_normal (hKq30 _ _ ?_)
        refine cond_dec (hF.t rfl) (fun h97 => ?_) (fun h97 => ?_)
        ·
          refine wp_skip ?_
          refine then_normal (hKq29 _ _ ?_)
          refine wp_seq_k fun Kq31 hKq31 => ?_
          refine wp_block ?_
          refine wp_seq_k fun Kq32 hKq32 => ?_
          -- region 26 (ref.go:80)
          refine wp_region_lit ?_
          refine wpList_stp (stp_alloc hF (wanted_none rfl) rfl rfl rfl Tryd.zv150 rfl hS fun xx a w hF hS => ?_)
          rw [x80_zero (PL.drop (64 * j))] at hS
          refine wpList_nil ?_
          refine then_normal (hKq32 _ _ ?_)
          refine wp_seq_k fun Kq33 hKq33 => ?_
          refine wp_seq_k fun Kq34 hKq34 => ?_
          -- region 27 (ref.go:81)
          refine wp_region_lit ?_
          refine wpList_stp (stp_gv hF (wanted_none rfl) rfl rfl (gv_assign rfl (ev_const _ _)) fun a hF => ?_)
          refine wpList_nil ?_
          refine then_normal (hKq34 _ _ ?_)
          refine wp_block ?_
          refine wp_loop_n (fun q a w => ∃ i, i ≤ 64 ∧ q = 64 - i ∧ Fr 292 a [(1, vI 32), (5, vI 64), (6, vD 4294967295), (7, .pointer (some ⟨tb, 0, none⟩)), (8, vI 64), (9, .slice (some ⟨o, 0, none⟩) PL.length (PL.length + op.length)), (12, .pointer (some ⟨hh, 0, none⟩)), (13, .pointer (some ⟨kk, 0, none⟩)), (15, vI (64 * j)), (16, .pointer (some ⟨xx, 0, none⟩)), (17, vI i)] ∧ St w0 w [⟨true, some xx, blk 150 (X80 (w4 (PL.drop (64 * j)) i))⟩, ⟨true, some kk, blkD 150 stepsL⟩, ⟨true, some hh, blk 148 ((hsA PL j).map v64)⟩, ⟨true, some o, blk 5 (PL.map vB ++ op)⟩, ⟨true, some tb, blk 147 (T12.map vI)⟩]) 64 ⟨0, by omega, by omega, hF.sub ⟨rfl, rfl, rfl, rfl, rfl, rfl, rfl, rfl, rfl, rfl, rfl, trivial⟩, hS⟩ ?_
          rintro q a w ⟨i, hi, hq1, hF, hS⟩
          refine wp_seq_k fun Kq35 hKq35 => ?_
          refine wp_seq_k fun Kq36 hKq36 => ?_
          -- region 28 (ref.go:81)
          refine wp_region_lit ?_
          refine wpList_stp (stp_gv hF (wanted_none rfl) rfl rfl (gv_move rfl (hF.t rfl)) fun a hF => ?_)
          refine wpList_stp (stp_gv hF (wanted_none rfl) rfl rfl (gv_move rfl (hF.t rfl)) fun a hF => ?_)
          refine wpList_stp (stp_gv hF (wanted_none rfl) rfl rfl (gv_lss rfl (hF.t rfl) (hF.t rfl)) fun a hF => ?_)
          refine wpList_nil ?_
          refine then_normal (hKq36 _ _ ?_)
          refine cond_dec (hF.t rfl) (fun h103 => ?_) (fun h103 => ?_)
          ·
            refine wp_skip ?_
            refine then_normal (hKq35 _ _ ?_)
            refine wp_seq_k fun Kq37 hKq37 => ?_
            refine wp_block ?_
            -- region 30 (ref.go:82)
            refine Fw.wp_region_draw (by kernel_rfl) fun w hx => ?_
            replace hS := hS.ext hx
            clear hx
            refine run_head0 (n := 20) _ hF (by kernel_rfl) rfl ?_
            refine dw_gv hF rfl (wanted_none rfl) rfl rfl (fun w hx => gv_move rfl (hF.t rfl)) fun a hF => ?_
            refine dw_gv hF rfl (wanted_none rfl) rfl rfl (fun w hx => gv_nmul (m := 8) rfl rfl (hF.t rfl) (by omega)) fun a hF => ?_
            refine dw_gv hF rfl (wanted_none rfl) rfl rfl (fun w hx => gv_move rfl (hF.t rfl)) fun a hF => ?_
            refine dw_gv hF rfl (wanted_none rfl) rfl rfl (fun w hx => gv_nquo rfl (hF.t rfl) (hF.t rfl) (by omega) (by omega)) fun a hF => ?_
            refine dw_gv hF rfl (wanted_none rfl) rfl rfl (fun w hx => gv_move rfl (hF.t rfl)) fun a hF => ?_
            refine dw_gv hF rfl (wanted_none rfl) rfl rfl (fun w hx => gv_nmul (m := 8) rfl rfl (hF.t rfl) (by omega)) fun a hF => ?_
            refine dw_gv hF rfl (wanted_none rfl) rfl rfl (fun w hx => gv_move rfl (hF.t rfl)) fun a hF => ?_
            refine dw_gv hF rfl (wanted_none rfl) rfl rfl (fun w hx => gv_nquo rfl (hF.t rfl) (hF.t rfl) (by omega) (by omega)) fun a hF => ?_
            refine dw_gv hF rfl (wanted_none rfl) rfl rfl (fun w hx => gv_indexArr rfl Tryd.underlying150 Tryd.sz76 (hF.t rfl) (hF.t rfl) (by omega)) fun a hF => ?_
            refine dw_gv hF rfl (wanted_none rfl) rfl rfl (fun w hx => gv_load rfl Tryd.underlying76 rfl (hF.t rfl) (cell_ix (j := 8 * i / 32) ((hS.ext hx).cell (k := 0) rfl (x80_at (q := i / 4) (by omega) (by rw [w4_len]; omega))) (by omega))) fun a hF => ?_
            refine dw_gv hF rfl (wanted_none rfl) rfl rfl (fun w hx => gv_d_mul (n := 256) rfl (hF.t rfl) rfl) fun a hF => ?_
            refine dw_gv hF rfl (wanted_none rfl) rfl rfl (fun w hx => gv_move rfl (hF.t rfl)) fun a hF => ?_
            refine dw_gv hF rfl (wanted_none rfl) rfl rfl (fun w hx => gv_move rfl (hF.t rfl)) fun a hF => ?_
            refine dw_gv hF rfl (wanted_none rfl) rfl rfl (fun w hx => gv_move rfl (hF.t rfl)) fun a hF => ?_
            refine dw_gv hF rfl (wanted_none rfl) rfl rfl (fun w hx => gv_nadd rfl (hF.t rfl) (hF.t rfl) (by omega)) fun a hF => ?_
            refine dw_gv hF rfl (wanted_none rfl) rfl rfl (fun w hx => gv_indexSl rfl Tryd.underlying22 Tryd.sz5 (hF.t rfl) (hF.t rfl) (by omega)) fun a hF => ?_
            refine dw_gv hF rfl (wanted_none rfl) rfl rfl (fun w hx => gv_load rfl Tryd.underlying5 rfl (hF.t rfl) (cell_ix (j := 64 * j + i) ((hS.ext hx).cell (k := 3) rfl (at_map (by omega) 0)) (by omega))) fun a hF => ?_
            refine dw_gv hF rfl (wanted_none rfl) rfl rfl (fun w hx => gv_conv_b_d rfl Tryd.underlying5 Tryd.underlying76 (hF.t rfl)) fun a hF => ?_
            refine dw_gv hF rfl (wanted_none rfl) rfl rfl (fun w hx => gv_d_add rfl (hF.t rfl) (hF.t rfl)) fun a hF => ?_
            rw [ld64 (by omega)] at hF
            refine dw_gv hF rfl (wanted_none rfl) rfl rfl (fun w hx => gv_indexArr rfl Tryd.underlying150 Tryd.sz76 (hF.t rfl) (hF.t rfl) (by omega)) fun a hF => ?_
            refine dw_nil fun a w hA hx => ?_
            replace hF := hA _ hF
            replace hS := hS.ext hx
            clear hA hx
            refine run_stp (by kernel_rfl) rfl (stp_storeAt (8 * i / 32) hF (wanted_none rfl) rfl rfl Tryd.sz76 (hF.t rfl) (by omega) (hF.t rfl) rfl hS (k := 0) rfl (by rw [x80_len, w4_len]; omega) fun w hS => ?_)
            rw [x80_set (q := i / 4) (by omega) (by rw [w4_len]; omega)] at hS
            refine run_done (by decide) ?_
            refine block_normal ?_
            refine then_normal (hKq37 _ _ ?_)
            -- region 29 (ref.go:81)
            refine wp_region_lit ?_
            refine wpList_stp (stp_gv hF (wanted_none rfl) rfl rfl (gv_move rfl (hF.t rfl)) fun a hF => ?_)
            refine wpList_stp (stp_gv hF (wanted_none rfl) rfl rfl (gv_nadd (n := 1) rfl (hF.t rfl) rfl (by omega)) fun a hF => ?_)
            refine wpList_stp (stp_gv hF (wanted_none rfl) rfl rfl (gv_assign rfl (hF.t rfl)) fun a hF => ?_)
            refine wpList_nil ?_
            refine then_normal ?_
            exact ⟨q - 1, by omega, i + 1, by omega, by omega, hF.sub ⟨rfl, rfl, rfl, rfl, rfl, rfl, rfl, rfl, rfl, rfl, rfl, trivial⟩, hS⟩
          ·
            refine wp_exit ?_
            refine then_exit ?_
            refine then_exit ?_
            refine block_exit ?_
            refine then_normal (hKq33 _ _ ?_)
            refine wp_seq_k fun Kq38 hKq38 => ?_
            refine wp_seq_k fun Kq39 hKq39 => ?_
            -- region 31 (ref.go:84)
            refine wp_region_lit ?_
            refine wpList_stp (stp_gv hF (wanted_none rfl) rfl rfl (gv_assign rfl (ev_const _ _)) fun a hF => ?_)
            refine wpList_nil ?_
            refine then_normal (hKq39 _ _ ?_)
            refine wp_block ?_
            obtain rfl : i = 64 := by omega
            refine wp_loop_n (fun q a w => ∃ i, i ≤ 48 ∧ q = 48 - i ∧ Fr 292 a [(1, vI 32), (5, vI 64), (6, vD 4294967295), (7, .pointer (some ⟨tb, 0, none⟩)), (8, vI 64), (9, .slice (some ⟨o, 0, none⟩) PL.length (PL.length + op.length)), (12, .pointer (some ⟨hh, 0, none⟩)), (13, .pointer (some ⟨kk, 0, none⟩)), (15, vI (64 * j)), (16, .pointer (some ⟨xx, 0, none⟩)), (18, vI (i + 16))] ∧ St w0 w [⟨true, some xx, blk 150 (X80 (w6 (w4 (PL.drop (64 * j)) 64) i))⟩, ⟨true, some kk, blkD 150 stepsL⟩, ⟨true, some hh, blk 148 ((hsA PL j).map v64)⟩, ⟨true, some o, blk 5 (PL.map vB ++ op)⟩, ⟨true, some tb, blk 147 (T12.map vI)⟩]) 48 ⟨0, by omega, by omega, hF.sub ⟨rfl, rfl, rfl, rfl, rfl, rfl, rfl, rfl, rfl, rfl, rfl, trivial⟩, hS⟩ ?_
            rintro q a w ⟨i, hi, hq1, hF, hS⟩
            refine wp_seq_k fun Kq40 hKq40 => ?_
            refine wp_seq_k fun Kq41 hKq41 => ?_
            -- region 32 (ref.go:84)
            refine wp_region_lit ?_
            refine wpList_stp (stp_gv hF (wanted_none rfl) rfl rfl (gv_move rfl (hF.t rfl)) fun a hF => ?_)
            refine wpList_stp (stp_gv hF (wanted_none rfl) rfl rfl (gv_move rfl (hF.t rfl)) fun a hF => ?_)
            refine wpList_stp (stp_gv hF (wanted_none rfl) rfl rfl (gv_lss rfl (hF.t rfl) (hF.t rfl)) fun a hF => ?_)
            refine wpList_nil ?_
            refine then_normal (hKq41 _ _ ?_)
            refine cond_dec (hF.t rfl) (fun h128 => ?_) (fun h128 => ?_)
            ·
              refine wp_skip ?_
              refine then_normal (hKq40 _ _ ?_)
              refine wp_seq_k fun Kq42 hKq42 => ?_
              refine wp_block ?_
              -- region 34 (ref.go:85)
              refine Fw.wp_region_draw (by kernel_rfl) fun w hx => ?_
              replace hS := hS.ext hx
              clear hx
              refine run_head0 (n := 31) _ hF (by kernel_rfl) rfl ?_
              refine dw_gv hF rfl (wanted_none rfl) rfl rfl (fun w hx => gv_move rfl (hF.t rfl)) fun a hF => ?_
              refine dw_gv hF rfl (wanted_none rfl) rfl rfl (fun w hx => gv_move rfl (hF.t rfl)) fun a hF => ?_
              refine dw_gv hF rfl (wanted_none rfl) rfl rfl (fun w hx => gv_nsub (n := 16) rfl (hF.t rfl) rfl (by omega) (by omega)) fun a hF => ?_
              refine dw_gv hF rfl (wanted_none rfl) rfl rfl (fun w hx => gv_indexArr rfl Tryd.underlying150 Tryd.sz76 (hF.t rfl) (hF.t rfl) (by omega)) fun a hF => ?_
              refine dw_gv hF rfl (wanted_none rfl) rfl rfl (fun w hx => gv_load rfl Tryd.underlying76 rfl (hF.t rfl) (cell_ix (j := i) ((hS.ext hx).cell (k := 0) rfl (x80_at (q := i) rfl (by rw [w6_len, w4_len]; omega))) (by omega))) fun a hF => ?_
              refine dw_gv hF rfl (wanted_none rfl) rfl rfl (fun w hx => gv_move rfl (hF.t rfl)) fun a hF => ?_
              refine dw_gv hF rfl (wanted_none rfl) rfl rfl (fun w hx => gv_nsub (n := 7) rfl (hF.t rfl) rfl (by omega) (by omega)) fun a hF => ?_
              refine dw_gv hF rfl (wanted_none rfl) rfl rfl (fun w hx => gv_indexArr rfl Tryd.underlying150 Tryd.sz76 (hF.t rfl) (hF.t rfl) (by omega)) fun a hF => ?_
              refine dw_gv hF rfl (wanted_none rfl) rfl rfl (fun w hx => gv_load rfl Tryd.underlying76 rfl (hF.t rfl) (cell_ix (j := i + 9) ((hS.ext hx).cell (k := 0) rfl (x80_at (q := i + 9) rfl (by rw [w6_len, w4_len]; omega))) (by omega))) fun a hF => ?_
              refine dw_gv hF rfl (wanted_none rfl) rfl rfl (fun w hx => gv_d_add rfl (hF.t rfl) (hF.t rfl)) fun a hF => ?_
              refine dw_gv hF rfl (wanted_none rfl) rfl rfl (fun w hx => gv_move rfl (hF.t rfl)) fun a hF => ?_
              refine dw_gv hF rfl (wanted_none rfl) rfl rfl (fun w hx => gv_nsub (n := 15) rfl (hF.t rfl) rfl (by omega) (by omega)) fun a hF => ?_
              refine dw_gv hF rfl (wanted_none rfl) rfl rfl (fun w hx => gv_indexArr rfl Tryd.underlying150 Tryd.sz76 (hF.t rfl) (hF.t rfl) (by omega)) fun a hF => ?_
              refine dw_gv hF rfl (wanted_none rfl) rfl rfl (fun w hx => gv_load rfl Tryd.underlying76 rfl (hF.t rfl) (cell_ix (j := i + 1) ((hS.ext hx).cell (k := 0) rfl (x80_at (q := i + 1) rfl (by rw [w6_len, w4_len]; omega))) (by omega))) fun a hF => ?_
              refine dw_gv hF rfl (wanted_none rfl) rfl rfl (fun w hx => gv_indexArr (q := 0) rfl Tryd.underlying147 Tryd.sz64 (hF.t rfl) rfl (by omega)) fun a hF => ?_
              refine dw_gv hF rfl (wanted_none rfl) rfl rfl (fun w hx => gv_loadPartAt (j := 0) (vs := [vI 7, vI 18, vI 3]) rfl Tryd.underlying64 rfl (Tryd.sz64.trans (congrArg some (rfl))) (hF.t rfl) (by omega) (hS.ext hx) (k := 4) rfl (rfl)) fun a hF => ?_
              refine dw_gv hF rfl (wanted_none rfl) rfl rfl (fun w hx => gv_move rfl (hF.t rfl)) fun a hF => ?_
              refine dw_call hF rfl (wanted_none rfl) rfl rfl Tryd.ok86 rfl (Evs.cons (hF.t rfl) (Evs.cons (hF.t rfl) (Evs.cons (ev_const _ _) (Evs.cons (hF.t rfl) Evs.nil)))) (fun w hx => rmix_t (n1 := 7) (n2 := 18) (n3 := 3) (by decide) (by decide) (by decide)) fun a hF => ?_
              refine dw_gv hF rfl (wanted_none rfl) rfl rfl (fun w hx => gv_d_add rfl (hF.t rfl) (hF.t rfl)) fun a hF => ?_
              refine dw_gv hF rfl (wanted_none rfl) rfl rfl (fun w hx => gv_move rfl (hF.t rfl)) fun a hF => ?_
              refine dw_gv hF rfl (wanted_none rfl) rfl rfl (fun w hx => gv_nsub (n := 2) rfl (hF.t rfl) rfl (by omega) (by omega)) fun a hF => ?_
              refine dw_gv hF rfl (wanted_none rfl) rfl rfl (fun w hx => gv_indexArr rfl Tryd.underlying150 Tryd.sz76 (hF.t rfl) (hF.t rfl) (by omega)) fun a hF => ?_
              refine dw_gv hF rfl (wanted_none rfl) rfl rfl (fun w hx => gv_load rfl Tryd.underlying76 rfl (hF.t rfl) (cell_ix (j := i + 14) ((hS.ext hx).cell (k := 0) rfl (x80_at (q := i + 14) rfl (by rw [w6_len, w4_len]; omega))) (by omega))) fun a hF => ?_
              refine dw_gv hF rfl (wanted_none rfl) rfl rfl (fun w hx => gv_indexArr (q := 1) rfl Tryd.underlying147 Tryd.sz64 (hF.t rfl) rfl (by omega)) fun a hF => ?_
              refine dw_gv hF rfl (wanted_none rfl) rfl rfl (fun w hx => gv_loadPartAt (j := 3) (vs := [vI 17, vI 19, vI 10]) rfl Tryd.underlying64 rfl (Tryd.sz64.trans (congrArg some (rfl))) (hF.t rfl) (by omega) (hS.ext hx) (k := 4) rfl (rfl)) fun a hF => ?_
              refine dw_gv hF rfl (wanted_none rfl) rfl rfl (fun w hx => gv_move rfl (hF.t rfl)) fun a hF => ?_
              refine dw_call hF rfl (wanted_none rfl) rfl rfl Tryd.ok86 rfl (Evs.cons (hF.t rfl) (Evs.cons (hF.t rfl) (Evs.cons (ev_const _ _) (Evs.cons (hF.t rfl) Evs.nil)))) (fun w hx => rmix_t (n1 := 17) (n2 := 19) (n3 := 10) (by decide) (by decide) (by decide)) fun a hF => ?_
              refine dw_gv hF rfl (wanted_none rfl) rfl rfl (fun w hx => gv_d_add rfl (hF.t rfl) (hF.t rfl)) fun a hF => ?_
              refine dw_gv hF rfl (wanted_none rfl) rfl rfl (fun w hx => gv_move rfl (hF.t rfl)) fun a hF => ?_
              refine dw_gv hF rfl (wanted_none rfl) rfl rfl (fun w hx => gv_d_and rfl (hF.t rfl) (hF.t rfl)) fun a hF => ?_
              rw [w64] at hF
              refine dw_gv hF rfl (wanted_none rfl) rfl rfl (fun w hx => gv_indexArr rfl Tryd.underlying150 Tryd.sz76 (hF.t rfl) (hF.t rfl) (by omega)) fun a hF => ?_
              refine dw_nil fun a w hA hx => ?_
              replace hF := hA _ hF
              replace hS := hS.ext hx
              clear hA hx
              refine run_stp (by kernel_rfl) rfl (stp_storeAt (i + 16) hF (wanted_none rfl) rfl rfl Tryd.sz76 (hF.t rfl) (by omega) (hF.t rfl) rfl hS (k := 0) rfl (by rw [x80_len, w6_len, w4_len]; omega) fun w hS => ?_)
              rw [x80_set (q := i + 16) rfl (by rw [w6_len, w4_len]; omega)] at hS
              refine run_done (by decide) ?_
              refine block_normal ?_
              refine then_normal (hKq42 _ _ ?_)
              -- region 33 (ref.go:84)
              refine wp_region_lit ?_
              refine wpList_stp (stp_gv hF (wanted_none rfl) rfl rfl (gv_move rfl (hF.t rfl)) fun a hF => ?_)
              refine wpList_stp (stp_gv hF (wanted_none rfl) rfl rfl (gv_nadd (n := 1) rfl (hF.t rfl) rfl (by omega)) fun a hF => ?_)
              refine wpList_stp (stp_gv hF (wanted_none rfl) rfl rfl (gv_assign rfl (hF.t rfl)) fun a hF => ?_)
              refine wpList_nil ?_
              refine then_normal ?_
              exact ⟨q - 1, by omega, i + 1, by omega, by omega, hF.sub ⟨rfl, rfl, rfl, rfl, rfl, rfl, rfl, rfl, rfl, rfl, rfl, trivial⟩, hS⟩
            ·
              refine wp_exit ?_
              refine then_exit ?_
              refine then_exit ?_
              refine block_exit ?_
              refine then_normal (hKq38 _ _ ?_)
              refine wp_seq_k fun Kq43 hKq43 => ?_
              obtain rfl : i = 48 := by omega
              obtain ⟨W, hW⟩ : ∃ W, W = wS (PL.drop (64 * j)) := ⟨_, rfl⟩
              obtain ⟨Hh, hHh⟩ : ∃ Hh, Hh = hsA PL j := ⟨_, rfl⟩
              have hWl := wS_len (PL.drop (64 * j))
              rw [show w6 (w4 (PL.drop (64 * j)) 64) 48 = W from hW.symm, ← hHh] at hS
              rw [← hW] at hWl
              rw [← hHh] at hHl
              -- region 35 (ref.go:87)
              refine wp_region_lit ?_
              refine wpList_stp (stp_gv hF (wanted_none rfl) rfl rfl (gv_loadAll rfl Tryd.underlying148 rfl (Tryd.sz148.trans (congrArg some (by rw [List.length_map, hHl]))) (hF.t rfl) hS (k := 2) rfl) fun a hF => ?_)
              refine wpList_stp (stp_alloc hF (wanted_none rfl) rfl rfl rfl Tryd.zv148 rfl hS fun vv a w hF hS => ?_)
              refine wpList_stp (stp_storeAll hF (wanted_none rfl) rfl rfl (Tryd.sz148.trans (congrArg some (by rw [List.length_map, hHl]))) (hF.t rfl) (hF.t rfl) (one64v _) hS (k := 0) rfl (by rw [List.length_map, hHl]; rfl) fun w hS => ?_)
              refine wpList_nil ?_
              refine then_normal (hKq43 _ _ ?_)
              refine wp_seq_k fun Kq44 hKq44 => ?_
              refine wp_seq_k fun Kq45 hKq45 => ?_
              -- region 36 (ref.go:88)
              refine wp_region_lit ?_
              refine wpList_stp (stp_gv hF (wanted_none rfl) rfl rfl (gv_assign rfl (ev_const _ _)) fun a hF => ?_)
              refine wpList_nil ?_
              refine then_normal (hKq45 _ _ ?_)
              refine wp_block ?_
              replace hS : St w0 w [⟨true, some vv, blk 148 ((toL (ofL Hh)).map v64)⟩, ⟨true, some xx, blk 150 (X80 (W))⟩, ⟨true, some kk, blkD 150 stepsL⟩, ⟨true, some hh, blk 148 ((Hh).map v64)⟩, ⟨true, some o, blk 5 (PL.map vB ++ op)⟩, ⟨true, some tb, blk 147 (T12.map vI)⟩] := by rw [toL_ofL hHl]; exact hS
              refine wp_loop_n (fun q a w => ∃ i v, i ≤ 64 ∧ q = 64 - i ∧ v = rds (ofL Hh) W i ∧ Fr 292 a [(1, vI 32), (5, vI 64), (6, vD 4294967295), (7, .pointer (some ⟨tb, 0, none⟩)), (8, vI 64), (9, .slice (some ⟨o, 0, none⟩) PL.length (PL.length + op.length)), (12, .pointer (some ⟨hh, 0, none⟩)), (13, .pointer (some ⟨kk, 0, none⟩)), (15, vI (64 * j)), (16, .pointer (some ⟨xx, 0, none⟩)), (19, .pointer (some ⟨vv, 0, none⟩)), (20, vI i)] ∧ St w0 w [⟨true, some vv, blk 148 ((toL v).map v64)⟩, ⟨true, some xx, blk 150 (X80 (W))⟩, ⟨true, some kk, blkD 150 stepsL⟩, ⟨true, some hh, blk 148 ((Hh).map v64)⟩, ⟨true, some o, blk 5 (PL.map vB ++ op)⟩, ⟨true, some tb, blk 147 (T12.map vI)⟩]) 64 ⟨0, ofL Hh, by omega, by omega, rfl, hF.sub ⟨rfl, rfl, rfl, rfl, rfl, rfl, rfl, rfl, rfl, rfl, rfl, rfl, trivial⟩, hS⟩ ?_
              rintro q a w ⟨i, v, hi, hq1, hV, hF, hS⟩
              refine wp_seq_k fun Kq46 hKq46 => ?_
              refine wp_seq_k fun Kq47 hKq47 => ?_
              -- region 37 (ref.go:88)
              refine wp_region_lit ?_
              refine wpList_stp (stp_gv hF (wanted_none rfl) rfl rfl (gv_move rfl (hF.t rfl)) fun a hF => ?_)
              refine wpList_stp (stp_gv hF (wanted_none rfl) rfl rfl (gv_move rfl (hF.t rfl)) fun a hF => ?_)
              refine wpList_stp (stp_gv hF (wanted_none rfl) rfl rfl (gv_lss rfl (hF.t rfl) (hF.t rfl)) fun a hF => ?_)
              refine wpList_nil ?_
              refine then_normal (hKq47 _ _ ?_)
              refine cond_dec (hF.t rfl) (fun h165 => ?_) (fun h165 => ?_)
              ·
                refine wp_skip ?_
                refine then_normal (hKq46 _ _ ?_)
                refine wp_seq_k fun Kq48 hKq48 => ?_
                refine wp_block ?_
                refine wp_seq_k fun Kq49 hKq49 => ?_
                -- region 39 (ref.go:89)
                refine wp_region_lit ?_
                refine wpList_stp (stp_gv hF (wanted_none rfl) rfl rfl (gv_indexArr (q := 4) rfl Tryd.underlying148 Tryd.sz76 (hF.t rfl) rfl (by omega)) fun a hF => ?_)
                refine wpList_stp (stp_gv hF (wanted_none rfl) rfl rfl (gv_load rfl Tryd.underlying76 rfl (hF.t rfl) (cell_ix (j := 4) (hS.cell (k := 0) rfl (rfl)) (by omega))) fun a hF => ?_)
                refine wpList_stp (stp_gv hF (wanted_none rfl) rfl rfl (gv_indexArr (q := 5) rfl Tryd.underlying148 Tryd.sz76 (hF.t rfl) rfl (by omega)) fun a hF => ?_)
                refine wpList_stp (stp_gv hF (wanted_none rfl) rfl rfl (gv_load rfl Tryd.underlying76 rfl (hF.t rfl) (cell_ix (j := 5) (hS.cell (k := 0) rfl (rfl)) (by omega))) fun a hF => ?_)
                refine wpList_stp (stp_gv hF (wanted_none rfl) rfl rfl (gv_d_and rfl (hF.t rfl) (hF.t rfl)) fun a hF => ?_)
                refine wpList_stp (stp_gv hF (wanted_none rfl) rfl rfl (gv_move rfl (hF.t rfl)) fun a hF => ?_)
                refine wpList_stp (stp_gv hF (wanted_none rfl) rfl rfl (gv_indexArr (q := 4) rfl Tryd.underlying148 Tryd.sz76 (hF.t rfl) rfl (by omega)) fun a hF => ?_)
                refine wpList_stp (stp_gv hF (wanted_none rfl) rfl rfl (gv_load rfl Tryd.underlying76 rfl (hF.t rfl) (cell_ix (j := 4) (hS.cell (k := 0) rfl (rfl)) (by omega))) fun a hF => ?_)
                refine wpList_stp (stp_gv hF (wanted_none rfl) rfl rfl (gv_d_xor rfl (hF.t rfl) (hF.t rfl)) fun a hF => ?_)
                refine wpList_stp (stp_gv hF (wanted_none rfl) rfl rfl (gv_indexArr (q := 6) rfl Tryd.underlying148 Tryd.sz76 (hF.t rfl) rfl (by omega)) fun a hF => ?_)
                refine wpList_stp (stp_gv hF (wanted_none rfl) rfl rfl (gv_load rfl Tryd.underlying76 rfl (hF.t rfl) (cell_ix (j := 6) (hS.cell (k := 0) rfl (rfl)) (by omega))) fun a hF => ?_)
                refine wpList_stp (stp_gv hF (wanted_none rfl) rfl rfl (gv_d_and rfl (hF.t rfl) (hF.t rfl)) fun a hF => ?_)
                refine wpList_stp (stp_gv hF (wanted_none rfl) rfl rfl (gv_d_or rfl (hF.t rfl) (hF.t rfl)) fun a hF => ?_)
                rw [ch64] at hF
                refine wpList_stp (stp_gv hF (wanted_none rfl) rfl rfl (gv_assign rfl (hF.t rfl)) fun a hF => ?_)
                refine wpList_nil ?_
                refine then_normal (hKq49 _ _ ?_)
                refine wp_seq_k fun Kq50 hKq50 => ?_
                -- region 40 (ref.go:90)
                refine Fw.wp_region_draw (by kernel_rfl) fun w hx => ?_
                replace hS := hS.ext hx
                clear hx
                refine run_head0 (n := 25) _ hF (by kernel_rfl) rfl ?_
                refine dw_gv hF rfl (wanted_none rfl) rfl rfl (fun w hx => gv_indexArr (q := 7) rfl Tryd.underlying148 Tryd.sz76 (hF.t rfl) rfl (by omega)) fun a hF => ?_
                refine dw_gv hF rfl (wanted_none rfl) rfl rfl (fun w hx => gv_load rfl Tryd.underlying76 rfl (hF.t rfl) (cell_ix (j := 7) ((hS.ext hx).cell (k := 0) rfl (rfl)) (by omega))) fun a hF => ?_
                refine dw_gv hF rfl (wanted_none rfl) rfl rfl (fun w hx => gv_indexArr (q := 4) rfl Tryd.underlying148 Tryd.sz76 (hF.t rfl) rfl (by omega)) fun a hF => ?_
                refine dw_gv hF rfl (wanted_none rfl) rfl rfl (fun w hx => gv_load rfl Tryd.underlying76 rfl (hF.t rfl) (cell_ix (j := 4) ((hS.ext hx).cell (k := 0) rfl (rfl)) (by omega))) fun a hF => ?_
                refine dw_gv hF rfl (wanted_none rfl) rfl rfl (fun w hx => gv_indexArr (q := 2) rfl Tryd.underlying147 Tryd.sz64 (hF.t rfl) rfl (by omega)) fun a hF => ?_
                refine dw_gv hF rfl (wanted_none rfl) rfl rfl (fun w hx => gv_loadPartAt (j := 6) (vs := [vI 6, vI 11, vI 25]) rfl Tryd.underlying64 rfl (Tryd.sz64.trans (congrArg some (rfl))) (hF.t rfl) (by omega) (hS.ext hx) (k := 5) rfl (rfl)) fun a hF => ?_
                refine dw_gv hF rfl (wanted_none rfl) rfl rfl (fun w hx => gv_move rfl (hF.t rfl)) fun a hF => ?_
                refine dw_call hF rfl (wanted_none rfl) rfl rfl Tryd.ok86 rfl (Evs.cons (hF.t rfl) (Evs.cons (hF.t rfl) (Evs.cons (ev_const _ _) (Evs.cons (hF.t rfl) Evs.nil)))) (fun w hx => rmix_f (n1 := 6) (n2 := 11) (n3 := 25) (by decide) (by decide) (by decide)) fun a hF => ?_
                refine dw_gv hF rfl (wanted_none rfl) rfl rfl (fun w hx => gv_d_add rfl (hF.t rfl) (hF.t rfl)) fun a hF => ?_
                refine dw_gv hF rfl (wanted_none rfl) rfl rfl (fun w hx => gv_move rfl (hF.t rfl)) fun a hF => ?_
                refine dw_gv hF rfl (wanted_none rfl) rfl rfl (fun w hx => gv_d_add rfl (hF.t rfl) (hF.t rfl)) fun a hF => ?_
                refine dw_gv hF rfl (wanted_none rfl) rfl rfl (fun w hx => gv_move rfl (hF.t rfl)) fun a hF => ?_
                refine dw_gv hF rfl (wanted_none rfl) rfl rfl (fun w hx => gv_indexArr rfl Tryd.underlying150 Tryd.sz76 (hF.t rfl) (hF.t rfl) (by omega)) fun a hF => ?_
                refine dw_gv hF rfl (wanted_none rfl) rfl rfl (fun w hx => gv_load rfl Tryd.underlying76 rfl (hF.t rfl) (cell_ix ((hS.ext hx).cellD (k := 2) rfl (i) (by rw [st_len]; omega)) (by omega))) fun a hF => ?_
                refine dw_gv hF rfl (wanted_none rfl) rfl rfl (fun w hx => gv_move rfl (hF.t rfl)) fun a hF => ?_
                refine dw_gv hF rfl (wanted_none rfl) rfl rfl (fun w hx => gv_nsub (m := 64) rfl rfl (hF.t rfl) (by omega) (by omega)) fun a hF => ?_
                refine dw_gv hF rfl (wanted_none rfl) rfl rfl (fun w hx => gv_d_shr rfl (hF.t rfl) (hF.t rfl) (by omega)) fun a hF => ?_
                rw [show (64 - 32 : Nat) = 32 from rfl, hi64] at hF
                refine dw_gv hF rfl (wanted_none rfl) rfl rfl (fun w hx => gv_d_add rfl (hF.t rfl) (hF.t rfl)) fun a hF => ?_
                refine dw_gv hF rfl (wanted_none rfl) rfl rfl (fun w hx => gv_move rfl (hF.t rfl)) fun a hF => ?_
                refine dw_gv hF rfl (wanted_none rfl) rfl rfl (fun w hx => gv_indexArr rfl Tryd.underlying150 Tryd.sz76 (hF.t rfl) (hF.t rfl) (by omega)) fun a hF => ?_
                refine dw_gv hF rfl (wanted_none rfl) rfl rfl (fun w hx => gv_load rfl Tryd.underlying76 rfl (hF.t rfl) (cell_ix (j := i) ((hS.ext hx).cell (k := 1) rfl (x80_at (q := i) rfl (by omega))) (by omega))) fun a hF => ?_
                refine dw_gv hF rfl (wanted_none rfl) rfl rfl (fun w hx => gv_d_add rfl (hF.t rfl) (hF.t rfl)) fun a hF => ?_
                refine dw_gv hF rfl (wanted_none rfl) rfl rfl (fun w hx => gv_move rfl (hF.t rfl)) fun a hF => ?_
                refine dw_gv hF rfl (wanted_none rfl) rfl rfl (fun w hx => gv_d_and rfl (hF.t rfl) (hF.t rfl)) fun a hF => ?_
                rw [t64] at hF
                refine dw_gv hF rfl (wanted_none rfl) rfl rfl (fun w hx => gv_assign rfl (hF.t rfl)) fun a hF => ?_
                refine dw_nil fun a w hA hx => ?_
                replace hF := hA _ hF
                replace hS := hS.ext hx
                clear hA hx
                refine run_done (by decide) ?_
                refine then_normal (hKq50 _ _ ?_)
                refine wp_seq_k fun Kq51 hKq51 => ?_
                -- region 41 (ref.go:91)
                refine Fw.wp_region_draw (by kernel_rfl) fun w hx => ?_
                replace hS := hS.ext hx
                clear hx
                refine run_head0 (n := 25) _ hF (by kernel_rfl) rfl ?_
                refine dw_gv hF rfl (wanted_none rfl) rfl rfl (fun w hx => gv_indexArr (q := 0) rfl Tryd.underlying148 Tryd.sz76 (hF.t rfl) rfl (by omega)) fun a hF => ?_
                refine dw_gv hF rfl (wanted_none rfl) rfl rfl (fun w hx => gv_load rfl Tryd.underlying76 rfl (hF.t rfl) (cell_ix (j := 0) ((hS.ext hx).cell (k := 0) rfl (rfl)) (by omega))) fun a hF => ?_
                refine dw_gv hF rfl (wanted_none rfl) rfl rfl (fun w hx => gv_indexArr (q := 3) rfl Tryd.underlying147 Tryd.sz64 (hF.t rfl) rfl (by omega)) fun a hF => ?_
                refine dw_gv hF rfl (wanted_none rfl) rfl rfl (fun w hx => gv_loadPartAt (j := 9) (vs := [vI 2, vI 13, vI 22]) rfl Tryd.underlying64 rfl (Tryd.sz64.trans (congrArg some (rfl))) (hF.t rfl) (by omega) (hS.ext hx) (k := 5) rfl (rfl)) fun a hF => ?_
                refine dw_gv hF rfl (wanted_none rfl) rfl rfl (fun w hx => gv_move rfl (hF.t rfl)) fun a hF => ?_
                refine dw_call hF rfl (wanted_none rfl) rfl rfl Tryd.ok86 rfl (Evs.cons (hF.t rfl) (Evs.cons (hF.t rfl) (Evs.cons (ev_const _ _) (Evs.cons (hF.t rfl) Evs.nil)))) (fun w hx => rmix_f (n1 := 2) (n2 := 13) (n3 := 22) (by decide) (by decide) (by decide)) fun a hF => ?_
                refine dw_gv hF rfl (wanted_none rfl) rfl rfl (fun w hx => gv_indexArr (q := 0) rfl Tryd.underlying148 Tryd.sz76 (hF.t rfl) rfl (by omega)) fun a hF => ?_
                refine dw_gv hF rfl (wanted_none rfl) rfl rfl (fun w hx => gv_load rfl Tryd.underlying76 rfl (hF.t rfl) (cell_ix (j := 0) ((hS.ext hx).cell (k := 0) rfl (rfl)) (by omega))) fun a hF => ?_
                refine dw_gv hF rfl (wanted_none rfl) rfl rfl (fun w hx => gv_indexArr (q := 1) rfl Tryd.underlying148 Tryd.sz76 (hF.t rfl) rfl (by omega)) fun a hF => ?_
                refine dw_gv hF rfl (wanted_none rfl) rfl rfl (fun w hx => gv_load rfl Tryd.underlying76 rfl (hF.t rfl) (cell_ix (j := 1) ((hS.ext hx).cell (k := 0) rfl (rfl)) (by omega))) fun a hF => ?_
                refine dw_gv hF rfl (wanted_none rfl) rfl rfl (fun w hx => gv_d_and rfl (hF.t rfl) (hF.t rfl)) fun a hF => ?_
                refine dw_gv hF rfl (wanted_none rfl) rfl rfl (fun w hx => gv_indexArr (q := 1) rfl Tryd.underlying148 Tryd.sz76 (hF.t rfl) rfl (by omega)) fun a hF => ?_
                refine dw_gv hF rfl (wanted_none rfl) rfl rfl (fun w hx => gv_load rfl Tryd.underlying76 rfl (hF.t rfl) (cell_ix (j := 1) ((hS.ext hx).cell (k := 0) rfl (rfl)) (by omega))) fun a hF => ?_
                refine dw_gv hF rfl (wanted_none rfl) rfl rfl (fun w hx => gv_indexArr (q := 2) rfl Tryd.underlying148 Tryd.sz76 (hF.t rfl) rfl (by omega)) fun a hF => ?_
                refine dw_gv hF rfl (wanted_none rfl) rfl rfl (fun w hx => gv_load rfl Tryd.underlying76 rfl (hF.t rfl) (cell_ix (j := 2) ((hS.ext hx).cell (k := 0) rfl (rfl)) (by omega))) fun a hF => ?_
                refine dw_gv hF rfl (wanted_none rfl) rfl rfl (fun w hx => gv_d_and rfl (hF.t rfl) (hF.t rfl)) fun a hF => ?_
                refine dw_gv hF rfl (wanted_none rfl) rfl rfl (fun w hx => gv_d_or rfl (hF.t rfl) (hF.t rfl)) fun a hF => ?_
                refine dw_gv hF rfl (wanted_none rfl) rfl rfl (fun w hx => gv_indexArr (q := 0) rfl Tryd.underlying148 Tryd.sz76 (hF.t rfl) rfl (by omega)) fun a hF => ?_
                refine dw_gv hF rfl (wanted_none rfl) rfl rfl (fun w hx => gv_load rfl Tryd.underlying76 rfl (hF.t rfl) (cell_ix (j := 0) ((hS.ext hx).cell (k := 0) rfl (rfl)) (by omega))) fun a hF => ?_
                refine dw_gv hF rfl (wanted_none rfl) rfl rfl (fun w hx => gv_indexArr (q := 2) rfl Tryd.underlying148 Tryd.sz76 (hF.t rfl) rfl (by omega)) fun a hF => ?_
                refine dw_gv hF rfl (wanted_none rfl) rfl rfl (fun w hx => gv_load rfl Tryd.underlying76 rfl (hF.t rfl) (cell_ix (j := 2) ((hS.ext hx).cell (k := 0) rfl (rfl)) (by omega))) fun a hF => ?_
                refine dw_gv hF rfl (wanted_none rfl) rfl rfl (fun w hx => gv_d_and rfl (hF.t rfl) (hF.t rfl)) fun a hF => ?_
                refine dw_gv hF rfl (wanted_none rfl) rfl rfl (fun w hx => gv_d_or rfl (hF.t rfl) (hF.t rfl)) fun a hF => ?_
                rw [mj64] at hF
                refine dw_gv hF rfl (wanted_none rfl) rfl rfl (fun w hx => gv_d_add rfl (hF.t rfl) (hF.t rfl)) fun a hF => ?_
                refine dw_gv hF rfl (wanted_none rfl) rfl rfl (fun w hx => gv_assign rfl (hF.t rfl)) fun a hF => ?_
                refine dw_nil fun a w hA hx => ?_
                replace hF := hA _ hF
                replace hS := hS.ext hx
                clear hA hx
                refine run_done (by decide) ?_
                refine then_normal (hKq51 _ _ ?_)
                -- region 42 (ref.go:92)
                refine wp_region_lit ?_
                refine wpList_stp (stp_gv hF (wanted_none rfl) rfl rfl (gv_move rfl (hF.t rfl)) fun a hF => ?_)
                refine wpList_stp (stp_gv hF (wanted_none rfl) rfl rfl (gv_move rfl (hF.t rfl)) fun a hF => ?_)
                refine wpList_stp (stp_gv hF (wanted_none rfl) rfl rfl (gv_d_add rfl (hF.t rfl) (hF.t rfl)) fun a hF => ?_)
                refine wpList_stp (stp_gv hF (wanted_none rfl) rfl rfl (gv_move rfl (hF.t rfl)) fun a hF => ?_)
                refine wpList_stp (stp_gv hF (wanted_none rfl) rfl rfl (gv_d_and rfl (hF.t rfl) (hF.t rfl)) fun a hF => ?_)
                rw [tu64] at hF
                refine wpList_stp (stp_gv hF (wanted_none rfl) rfl rfl (gv_indexArr (q := 0) rfl Tryd.underlying148 Tryd.sz76 (hF.t rfl) rfl (by omega)) fun a hF => ?_)
                refine wpList_stp (stp_gv hF (wanted_none rfl) rfl rfl (gv_load rfl Tryd.underlying76 rfl (hF.t rfl) (cell_ix (j := 0) (hS.cell (k := 0) rfl (rfl)) (by omega))) fun a hF => ?_)
                refine wpList_stp (stp_gv hF (wanted_none rfl) rfl rfl (gv_indexArr (q := 1) rfl Tryd.underlying148 Tryd.sz76 (hF.t rfl) rfl (by omega)) fun a hF => ?_)
                refine wpList_stp (stp_gv hF (wanted_none rfl) rfl rfl (gv_load rfl Tryd.underlying76 rfl (hF.t rfl) (cell_ix (j := 1) (hS.cell (k := 0) rfl (rfl)) (by omega))) fun a hF => ?_)
                refine wpList_stp (stp_gv hF (wanted_none rfl) rfl rfl (gv_indexArr (q := 2) rfl Tryd.underlying148 Tryd.sz76 (hF.t rfl) rfl (by omega)) fun a hF => ?_)
                refine wpList_stp (stp_gv hF (wanted_none rfl) rfl rfl (gv_load rfl Tryd.underlying76 rfl (hF.t rfl) (cell_ix (j := 2) (hS.cell (k := 0) rfl (rfl)) (by omega))) fun a hF => ?_)
                refine wpList_stp (stp_gv hF (wanted_none rfl) rfl rfl (gv_indexArr (q := 3) rfl Tryd.underlying148 Tryd.sz76 (hF.t rfl) rfl (by omega)) fun a hF => ?_)
                refine wpList_stp (stp_gv hF (wanted_none rfl) rfl rfl (gv_load rfl Tryd.underlying76 rfl (hF.t rfl) (cell_ix (j := 3) (hS.cell (k := 0) rfl (rfl)) (by omega))) fun a hF => ?_)
                refine wpList_stp (stp_gv hF (wanted_none rfl) rfl rfl (gv_move rfl (hF.t rfl)) fun a hF => ?_)
                refine wpList_stp (stp_gv hF (wanted_none rfl) rfl rfl (gv_d_add rfl (hF.t rfl) (hF.t rfl)) fun a hF => ?_)
                refine wpList_stp (stp_gv hF (wanted_none rfl) rfl rfl (gv_move rfl (hF.t rfl)) fun a hF => ?_)
                refine wpList_stp (stp_gv hF (wanted_none rfl) rfl rfl (gv_d_and rfl (hF.t rfl) (hF.t rfl)) fun a hF => ?_)
                rw [et64] at hF
                refine wpList_stp (stp_gv hF (wanted_none rfl) rfl rfl (gv_indexArr (q := 4) rfl Tryd.underlying148 Tryd.sz76 (hF.t rfl) rfl (by omega)) fun a hF => ?_)
                refine wpList_stp (stp_gv hF (wanted_none rfl) rfl rfl (gv_load rfl Tryd.underlying76 rfl (hF.t rfl) (cell_ix (j := 4) (hS.cell (k := 0) rfl (rfl)) (by omega))) fun a hF => ?_)
                refine wpList_stp (stp_gv hF (wanted_none rfl) rfl rfl (gv_indexArr (q := 5) rfl Tryd.underlying148 Tryd.sz76 (hF.t rfl) rfl (by omega)) fun a hF => ?_)
                refine wpList_stp (stp_gv hF (wanted_none rfl) rfl rfl (gv_load rfl Tryd.underlying76 rfl (hF.t rfl) (cell_ix (j := 5) (hS.cell (k := 0) rfl (rfl)) (by omega))) fun a hF => ?_)
                refine wpList_stp (stp_gv hF (wanted_none rfl) rfl rfl (gv_indexArr (q := 6) rfl Tryd.underlying148 Tryd.sz76 (hF.t rfl) rfl (by omega)) fun a hF => ?_)
                refine wpList_stp (stp_gv hF (wanted_none rfl) rfl rfl (gv_load rfl Tryd.underlying76 rfl (hF.t rfl) (cell_ix (j := 6) (hS.cell (k := 0) rfl (rfl)) (by omega))) fun a hF => ?_)
                refine wpList_stp (stp_gv hF (wanted_none rfl) rfl rfl (gv_build (v := .agg ((toL (rnd v (hi32 (stepsL.getD i 0)) (W.getD i 0))).map v64).toArray) rfl (EvP.map (EvP.cons (hF.t rfl) (EvP.cons (hF.t rfl) (EvP.cons (hF.t rfl) (EvP.cons (hF.t rfl) (EvP.cons (hF.t rfl) (EvP.cons (hF.t rfl) (EvP.cons (hF.t rfl) (EvP.cons (hF.t rfl) EvP.nil))))))))) (run_buildArr (cs := ((toL (rnd v (hi32 (stepsL.getD i 0)) (W.getD i 0))).map v64).toArray) Tryd.underlying148 Tryd.sz76 Tryd.zv148 rfl (fill8d (rnd v (hi32 (stepsL.getD i 0)) (W.getD i 0))))) fun a hF => ?_)
                refine wpList_stp (stp_storeAll hF (wanted_none rfl) rfl rfl (Tryd.sz148.trans (congrArg some (rfl))) (hF.t rfl) (hF.t rfl) (one64v _) hS (k := 0) rfl (rfl) fun w hS => ?_)
                refine wpList_nil ?_
                refine block_normal ?_
                refine then_normal (hKq48 _ _ ?_)
                -- region 38 (ref.go:88)
                refine wp_region_lit ?_
                refine wpList_stp (stp_gv hF (wanted_none rfl) rfl rfl (gv_move rfl (hF.t rfl)) fun a hF => ?_)
                refine wpList_stp (stp_gv hF (wanted_none rfl) rfl rfl (gv_nadd (n := 1) rfl (hF.t rfl) rfl (by omega)) fun a hF => ?_)
                refine wpList_stp (stp_gv hF (wanted_none rfl) rfl rfl (gv_assign rfl (hF.t rfl)) fun a hF => ?_)
                refine wpList_nil ?_
                refine then_normal ?_
                exact ⟨q - 1, by omega, i + 1, rnd v (hi32 (stepsL.getD i 0)) (W.getD i 0), by omega, by omega, by rw [hV]; rfl, hF.sub ⟨rfl, rfl, rfl, rfl, rfl, rfl, rfl, rfl, rfl, rfl, rfl, rfl, trivial⟩, hS⟩
              ·
                refine wp_exit ?_
                refine then_exit ?_
                refine then_exit ?_
                refine block_exit ?_
                refine then_normal (hKq44 _ _ ?_)
                refine wp_seq_k fun Kq52 hKq52 => ?_
                -- region 43 (ref.go:94)
                refine wp_region_lit ?_
                refine wpList_stp (stp_gv hF (wanted_none rfl) rfl rfl (gv_assign rfl (ev_const _ _)) fun a hF => ?_)
                refine wpList_nil ?_
                refine then_normal (hKq52 _ _ ?_)
                refine wp_block ?_
                obtain rfl : i = 64 := by omega
                refine wp_loop_n (fun q a w => ∃ i, i ≤ 8 ∧ q = 8 - i ∧ Fr 292 a [(1, vI 32), (5, vI 64), (6, vD 4294967295), (7, .pointer (some ⟨tb, 0, none⟩)), (8, vI 64), (9, .slice (some ⟨o, 0, none⟩) PL.length (PL.length + op.length)), (12, .pointer (some ⟨hh, 0, none⟩)), (13, .pointer (some ⟨kk, 0, none⟩)), (15, vI (64 * j)), (16, .pointer (some ⟨xx, 0, none⟩)), (19, .pointer (some ⟨vv, 0, none⟩)), (24, vI i)] ∧ St w0 w [⟨true, some vv, blk 148 ((toL v).map v64)⟩, ⟨true, some xx, blk 150 (X80 (W))⟩, ⟨true, some kk, blkD 150 stepsL⟩, ⟨true, some hh, blk 148 ((hadd Hh (toL v) i).map v64)⟩, ⟨true, some o, blk 5 (PL.map vB ++ op)⟩, ⟨true, some tb, blk 147 (T12.map vI)⟩]) 8 ⟨0, by omega, by omega, hF.sub ⟨rfl, rfl, rfl, rfl, rfl, rfl, rfl, rfl, rfl, rfl, rfl, rfl, trivial⟩, hS⟩ ?_
                rintro q a w ⟨i, hi, hq1, hF, hS⟩
                refine wp_seq_k fun Kq53 hKq53 => ?_
                refine wp_seq_k fun Kq54 hKq54 => ?_
                -- region 44 (ref.go:94)
                refine wp_region_lit ?_
                refine wpList_stp (stp_gv hF (wanted_none rfl) rfl rfl (gv_move rfl (hF.t rfl)) fun a hF => ?_)
                refine wpList_stp (stp_gv hF (wanted_none rfl) rfl rfl (gv_lss rfl (hF.t rfl) (ev_const _ _)) fun a hF => ?_)
                refine wpList_nil ?_
                refine then_normal (hKq54 _ _ ?_)
                refine cond_dec (hF.t rfl) (fun h254 => ?_) (fun h254 => ?_)
                ·
                  refine wp_skip ?_
                  refine then_normal (hKq53 _ _ ?_)
                  refine wp_seq_k fun Kq55 hKq55 => ?_
                  refine wp_block ?_
                  -- region 46 (ref.go:95)
                  refine Fw.wp_region_draw (by kernel_rfl) fun w hx => ?_
                  replace hS := hS.ext hx
                  clear hx
                  refine run_head0 (n := 11) _ hF (by kernel_rfl) rfl ?_
                  refine dw_gv hF rfl (wanted_none rfl) rfl rfl (fun w hx => gv_move rfl (hF.t rfl)) fun a hF => ?_
                  refine dw_gv hF rfl (wanted_none rfl) rfl rfl (fun w hx => gv_move rfl (hF.t rfl)) fun a hF => ?_
                  refine dw_gv hF rfl (wanted_none rfl) rfl rfl (fun w hx => gv_indexArr rfl Tryd.underlying148 Tryd.sz76 (hF.t rfl) (hF.t rfl) (by omega)) fun a hF => ?_
                  refine dw_gv hF rfl (wanted_none rfl) rfl rfl (fun w hx => gv_load rfl Tryd.underlying76 rfl (hF.t rfl) (cell_ix (j := i) ((hS.ext hx).cell (k := 3) rfl (at64 (by rw [hadd_len, hHl]; omega))) (by omega))) fun a hF => ?_
                  refine dw_gv hF rfl (wanted_none rfl) rfl rfl (fun w hx => gv_move rfl (hF.t rfl)) fun a hF => ?_
                  refine dw_gv hF rfl (wanted_none rfl) rfl rfl (fun w hx => gv_indexArr rfl Tryd.underlying148 Tryd.sz76 (hF.t rfl) (hF.t rfl) (by omega)) fun a hF => ?_
                  refine dw_gv hF rfl (wanted_none rfl) rfl rfl (fun w hx => gv_load rfl Tryd.underlying76 rfl (hF.t rfl) (cell_ix (j := i) ((hS.ext hx).cell (k := 0) rfl (at64 (by rw [toL_len]; omega))) (by omega))) fun a hF => ?_
                  refine dw_gv hF rfl (wanted_none rfl) rfl rfl (fun w hx => gv_d_add rfl (hF.t rfl) (hF.t rfl)) fun a hF => ?_
                  refine dw_gv hF rfl (wanted_none rfl) rfl rfl (fun w hx => gv_move rfl (hF.t rfl)) fun a hF => ?_
                  refine dw_gv hF rfl (wanted_none rfl) rfl rfl (fun w hx => gv_d_and rfl (hF.t rfl) (hF.t rfl)) fun a hF => ?_
                  rw [et64] at hF
                  refine dw_gv hF rfl (wanted_none rfl) rfl rfl (fun w hx => gv_indexArr rfl Tryd.underlying148 Tryd.sz76 (hF.t rfl) (hF.t rfl) (by omega)) fun a hF => ?_
                  refine dw_nil fun a w hA hx => ?_
                  replace hF := hA _ hF
                  replace hS := hS.ext hx
                  clear hA hx
                  refine run_stp (by kernel_rfl) rfl (stp_storeAt (i) hF (wanted_none rfl) rfl rfl Tryd.sz76 (hF.t rfl) (by omega) (hF.t rfl) rfl hS (k := 3) rfl (by rw [List.length_map, hadd_len, hHl]; omega) fun w hS => ?_)
                  rw [set64] at hS
                  refine run_done (by decide) ?_
                  refine block_normal ?_
                  refine then_normal (hKq55 _ _ ?_)
                  -- region 45 (ref.go:94)
                  refine wp_region_lit ?_
                  refine wpList_stp (stp_gv hF (wanted_none rfl) rfl rfl (gv_move rfl (hF.t rfl)) fun a hF => ?_)
                  refine wpList_stp (stp_gv hF (wanted_none rfl) rfl rfl (gv_nadd (n := 1) rfl (hF.t rfl) rfl (by omega)) fun a hF => ?_)
                  refine wpList_stp (stp_gv hF (wanted_none rfl) rfl rfl (gv_assign rfl (hF.t rfl)) fun a hF => ?_)
                  refine wpList_nil ?_
                  refine then_normal ?_
                  exact ⟨q - 1, by omega, i + 1, by omega, by omega, hF.sub ⟨rfl, rfl, rfl, rfl, rfl, rfl, rfl, rfl, rfl, rfl, rfl, rfl, trivial⟩, hS⟩
                ·
                  refine wp_exit ?_
                  refine then_exit ?_
                  refine then_exit ?_
                  refine block_exit ?_
                  refine block_normal ?_
                  refine then_normal (hKq31 _ _ ?_)
                  -- region 25 (ref.go:79)
                  refine wp_region_lit ?_
                  refine wpList_stp (stp_gv hF (wanted_none rfl) rfl rfl (gv_move rfl (hF.t rfl)) fun a hF => ?_)
                  refine wpList_stp (stp_gv hF (wanted_none rfl) rfl rfl (gv_move rfl (hF.t rfl)) fun a hF => ?_)
                  refine wpList_stp (stp_gv hF (wanted_none rfl) rfl rfl (gv_nadd rfl (hF.t rfl) (hF.t rfl) (by omega)) fun a hF => ?_)
                  refine wpList_stp (stp_gv hF (wanted_none rfl) rfl rfl (gv_assign rfl (hF.t rfl)) fun a hF => ?_)
                  refine wpList_nil ?_
                  refine then_normal ?_
                  obtain rfl : i = 8 := by omega
                  replace hS := (hS.drop rfl).drop rfl
                  exact ⟨n - 1, by omega, j + 1, by omega, by omega, hF.sub ⟨rfl, rfl, rfl, rfl, rfl, rfl, rfl, rfl, rfl, trivial⟩, by rw [hsA, blkS, ← hHh, ← hW, ← hV]; exact hS⟩
        ·
          refine wp_exit ?_
          refine then_exit ?_
          refine then_exit ?_
          refine block_exit ?_
          refine then_normal (hKq27 _ _ ?_)
          refine wp_seq_k fun Kq56 hKq56 => ?_
          -- region 47 (ref.go:98)
          refine wp_region_lit ?_
          refine wpList_stp (stp_gv hF (wanted_none rfl) rfl rfl (gv_assign rfl (ev_const _ _)) fun a hF => ?_)
          refine wpList_nil ?_
          refine then_normal (hKq56 _ _ ?_)
          refine wp_seq_k fun Kq57 hKq57 => ?_
          refine wp_seq_k fun Kq58 hKq58 => ?_
          -- region 48 (ref.go:99)
          refine wp_region_lit ?_
          refine wpList_stp (stp_gv hF (wanted_none rfl) rfl rfl (gv_assign rfl (ev_const _ _)) fun a hF => ?_)
          refine wpList_nil ?_
          refine then_normal (hKq58 _ _ ?_)
          refine wp_block ?_
          obtain rfl : j = M := by omega
          obtain ⟨Hf, hHf⟩ : ∃ Hf, Hf = hsA PL j := ⟨_, rfl⟩
          have hFl : Hf.length = 8 := by rw [hHf]; exact hHl
          rw [← hHf] at hS
          replace hS := hS.addNil (blk 5 (([] : List UInt8).map vB ++ []))
          refine wp_loop_n (fun q a w => ∃ (i : Nat) (u : Option Nat) (up : List Value), i ≤ 32 ∧ q = 32 - i ∧ (u = none → (outA Hf i) = [] ∧ up = []) ∧ ((outA Hf i)).length + up.length ≤ 9223372036854775807 ∧ Fr 292 a [(1, vI 32), (12, .pointer (some ⟨hh, 0, none⟩)), (25, ownV u (outA Hf i).length ((outA Hf i).length + up.length)), (26, vI i)] ∧ St w0 w [⟨true, u, blk 5 ((outA Hf i).map vB ++ up)⟩, ⟨true, some kk, blkD 150 stepsL⟩, ⟨true, some hh, blk 148 ((Hf).map v64)⟩, ⟨true, some o, blk 5 (PL.map vB ++ op)⟩, ⟨true, some tb, blk 147 (T12.map vI)⟩]) 32 ⟨0, none, [], by omega, by omega, fun _ => ⟨rfl, rfl⟩, by simp [outA], hF.sub ⟨rfl, rfl, rfl, rfl, trivial⟩, hS⟩ ?_
          rintro q a w ⟨i, u, up, hi, hq1, uo, uc, hF, hS⟩
          refine wp_seq_k fun Kq59 hKq59 => ?_
          refine wp_seq_k fun Kq60 hKq60 => ?_
          -- region 49 (ref.go:99)
          refine wp_region_lit ?_
          refine wpList_stp (stp_gv hF (wanted_none rfl) rfl rfl (gv_move rfl (hF.t rfl)) fun a hF => ?_)
          refine wpList_stp (stp_gv hF (wanted_none rfl) rfl rfl (gv_move rfl (hF.t rfl)) fun a hF => ?_)
          refine wpList_stp (stp_gv hF (wanted_none rfl) rfl rfl (gv_lss rfl (hF.t rfl) (hF.t rfl)) fun a hF => ?_)
          refine wpList_nil ?_
          refine then_normal (hKq60 _ _ ?_)
          refine cond_dec (hF.t rfl) (fun h270 => ?_) (fun h270 => ?_)
          ·
            refine wp_skip ?_
            refine then_normal (hKq59 _ _ ?_)
            refine wp_seq_k fun Kq61 hKq61 => ?_
            refine wp_block ?_
            -- region 51 (ref.go:100)
            refine Fw.wp_region_draw (by kernel_rfl) fun w hx => ?_
            replace hS := hS.ext hx
            clear hx
            refine run_head1 (n := 17) _ 16 289 _ (FlS w 5 1 [vB ((Hf.getD (i / 4) 0 >>> UInt32.ofNat (24 - 8 * (i % 4))).toUInt8)]) hF (by kernel_rfl) rfl rfl rfl (FlS.lasts w 5 1 [vB ((Hf.getD (i / 4) 0 >>> UInt32.ofNat (24 - 8 * (i % 4))).toUInt8)]) ?_ (by omega) (by omega)
            refine dw_gv hF rfl (wanted_none rfl) rfl rfl (fun w hx => gv_move rfl (hF.t rfl)) fun a hF => ?_
            refine dw_gv hF rfl (wanted_none rfl) rfl rfl (fun w hx => gv_move rfl (hF.t rfl)) fun a hF => ?_
            refine dw_gv hF rfl (wanted_none rfl) rfl rfl (fun w hx => gv_nmul (m := 8) rfl rfl (hF.t rfl) (by omega)) fun a hF => ?_
            refine dw_gv hF rfl (wanted_none rfl) rfl rfl (fun w hx => gv_move rfl (hF.t rfl)) fun a hF => ?_
            refine dw_gv hF rfl (wanted_none rfl) rfl rfl (fun w hx => gv_nquo rfl (hF.t rfl) (hF.t rfl) (by omega) (by omega)) fun a hF => ?_
            refine dw_gv hF rfl (wanted_none rfl) rfl rfl (fun w hx => gv_indexArr rfl Tryd.underlying148 Tryd.sz76 (hF.t rfl) (hF.t rfl) (by omega)) fun a hF => ?_
            refine dw_gv hF rfl (wanted_none rfl) rfl rfl (fun w hx => gv_load rfl Tryd.underlying76 rfl (hF.t rfl) (cell_ix (j := 8 * i / 32) ((hS.ext hx).cell (k := 2) rfl (at64q (q := i / 4) (by omega) (by rw [hFl]; omega))) (by omega))) fun a hF => ?_
            refine dw_gv hF rfl (wanted_none rfl) rfl rfl (fun w hx => gv_move rfl (hF.t rfl)) fun a hF => ?_
            refine dw_gv hF rfl (wanted_none rfl) rfl rfl (fun w hx => gv_nsub (n := 8) rfl (hF.t rfl) rfl (by omega) (by omega)) fun a hF => ?_
            refine dw_gv hF rfl (wanted_none rfl) rfl rfl (fun w hx => gv_move rfl (hF.t rfl)) fun a hF => ?_
            refine dw_gv hF rfl (wanted_none rfl) rfl rfl (fun w hx => gv_nmul (m := 8) rfl rfl (hF.t rfl) (by omega)) fun a hF => ?_
            refine dw_gv hF rfl (wanted_none rfl) rfl rfl (fun w hx => gv_move rfl (hF.t rfl)) fun a hF => ?_
            refine dw_gv hF rfl (wanted_none rfl) rfl rfl (fun w hx => gv_nrem rfl (hF.t rfl) (hF.t rfl) (by omega)) fun a hF => ?_
            refine dw_gv hF rfl (wanted_none rfl) rfl rfl (fun w hx => gv_nsub rfl (hF.t rfl) (hF.t rfl) (by omega) (by omega)) fun a hF => ?_
            refine dw_gv hF rfl (wanted_none rfl) rfl rfl (fun w hx => gv_d_shr rfl (hF.t rfl) (hF.t rfl) (by omega)) fun a hF => ?_
            refine dw_gv hF rfl (wanted_none rfl) rfl rfl (fun w hx => gv_conv_d_b rfl Tryd.underlying76 Tryd.underlying5 (hF.t rfl)) fun a hF => ?_
            rw [show 32 - 8 - 8 * i % 32 = 24 - 8 * (i % 4) by omega, byte64 _ _ (by omega)] at hF
            refine dw_fl rfl ?_
            refine dw_nil ⟨fo_build1 rfl Tryd.underlying22 Tryd.ty5 (hF.t rfl), fun a w v hR hA hx => ?_⟩
            obtain ⟨zb, rfl, hR1, hR2⟩ := hR
            replace hF := hA _ hF
            replace hS := hS.float hx hR1 hR2
            clear hA hx hR1 hR2
            refine run_stp (by kernel_rfl) rfl (stp_app1 (k := 0) hF (wanted_none rfl) rfl rfl rfl Tryd.underlying22 Tryd.ty5 rfl (hF.t rfl) (hF.t rfl) hS rfl uo uc (by rw [outA_len]; omega) fun u up a w hF uo uc hS => ?_)
            refine run_stp (by kernel_rfl) rfl (stp_gv hF (wanted_none rfl) rfl rfl (gv_assign rfl (hF.t rfl)) fun a hF => ?_)
            refine run_done (by decide) ?_
            refine block_normal ?_
            refine then_normal (hKq61 _ _ ?_)
            -- region 50 (ref.go:99)
            refine wp_region_lit ?_
            refine wpList_stp (stp_gv hF (wanted_none rfl) rfl rfl (gv_move rfl (hF.t rfl)) fun a hF => ?_)
            refine wpList_stp (stp_gv hF (wanted_none rfl) rfl rfl (gv_nadd (n := 1) rfl (hF.t rfl) rfl (by omega)) fun a hF => ?_)
            refine wpList_stp (stp_gv hF (wanted_none rfl) rfl rfl (gv_assign rfl (hF.t rfl)) fun a hF => ?_)
            refine wpList_nil ?_
            refine then_normal ?_
            exact ⟨q - 1, by omega, i + 1, u, up, by omega, by omega, uo, uc, hF.sub ⟨rfl, rfl, rfl, rfl, trivial⟩, hS⟩
          ·
            refine wp_exit ?_
            refine then_exit ?_
            refine then_exit ?_
            refine block_exit ?_
            refine then_normal (hKq57 _ _ ?_)
            refine wp_seq_k fun Kq62 hKq62 => ?_
            obtain rfl : i = 32 := by omega
            obtain ⟨u, rfl⟩ := own_some uo (by rw [outA_len]; omega)
            rw [outA_len] at hF uc
            rw [outA_S, show outS Hf 32 = sum256 bl from by rw [hHf, sum256, ← hPL, hM, Nat.mul_div_cancel_left _ (by decide)]] at hS
            -- region 52 (ref.go:102)
            refine wp_region_lit ?_
            refine wpList_stp (stp_gv hF (wanted_none rfl) rfl rfl (gv_move rfl (hF.t rfl)) fun a hF => ?_)
            refine wpList_stp (stp_gv hF (wanted_none rfl) rfl rfl (gv_assign rfl (hF.t rfl)) fun a hF => ?_)
            refine wpList_nil ?_
            refine then_normal (hKq62 _ _ ?_)
            refine wp_ret ?_
            refine ret1 (fn := Tryd.f64) (t := 4) hF rfl rfl ?_
            exact ⟨u, up, rfl, uc, (((hS.drop2 rfl).drop2 rfl).drop2 rfl).drop2 rfl⟩


end Go.Proofs.YtfhalnobaeogkaaDoor

/- What is proved: lemmas and contracts, part 4 of what the theorem of YtfhalnobaeogkaaDoorPackPR leans on. No further condition. -/
import Derived.Test.YtfhalnobaeogkaaDoorProg
import Derived.Test.YtfhalnobaeogkaaDoorRows
import Derived.Below
import Derived.ChangeOld
import Derived.Deep.SlicePairs
import Derived.Deep.Slices
import Derived.Great.BuildSlice
import Derived.KernelRfl
import Derived.LaidMore
import Derived.Laws.Build
import Derived.Laws.BytesArg
import Derived.Laws.IdiomCopy
import Derived.Laws.StructEq
import Derived.Lib.ConvBytes
import Derived.Maps.AppendAt
import Derived.OpenShut
import Derived.ProofKit
import Derived.SevenTiedAt
import Derived.ShutString
import Derived.SizedLaws
import Derived.Stop.BytesEq
import Derived.Stop.Joined
import Derived.WalkKit
import Derived.Test.YtfhalnobaeogkaaDoorPackPR1
import Derived.Test.YtfhalnobaeogkaaDoorPackPR2
import Derived.Test.YtfhalnobaeogkaaDoorPackPR3
set_option linter.unusedVariables false
set_option linter.unusedSimpArgs false
namespace Go.Proofs.YtfhalnobaeogkaaDoor
open Go Go.RowKit Go.Fw
theorem z147 : (Tryd.prog.info? 147).map (·.size) = some 12 := by kernel_rfl
theorem Tryd.ok84 : CallOk Tryd.prog 84 := ⟨_, Tryd.func84, by kernel_rfl, by kernel_rfl⟩
theorem Tryd.ok85 : CallOk Tryd.prog 85 := ⟨_, Tryd.func85, by kernel_rfl, by kernel_rfl⟩
theorem Tryd.ok86 : CallOk Tryd.prog 86 := ⟨_, Tryd.func86, by kernel_rfl, by kernel_rfl⟩
def X80 (l : List UInt32) : List Value := l.map v64 ++ List.replicate 16 (vD 0)
theorem x80_zero (p : List UInt8) : (List.replicate 80 (0 : UInt64)).map vD = X80 (w4 p 0) := by
 rw [X80, w4]; kernel_rfl
theorem x80_len (l : List UInt32) : (X80 l).length = l.length + 16 := by simp [X80]
theorem x80_at {l : List UInt32} {j q : Nat} (h : j = q) (hq : q < l.length) : (X80 l)[j]? = some (vD (l.getD q 0).toUInt64) := by
 subst h
 rw [X80, List.getElem?_append_left (by rw [List.length_map]; exact hq)]
 exact at64 hq
theorem x80_set {l : List UInt32} {j q : Nat} {x : UInt32} (h : j = q) (hq : q < l.length) : (X80 l).set j (vD x.toUInt64) = X80 (l.set q x) := by
 subst h
 rw [X80, X80, List.set_append, if_pos (by rw [List.length_map]; exact hq), set64]
theorem at64q {l : List UInt32} {j q : Nat} (h : j = q) (hq : q < l.length) : (l.map v64)[j]? = some (vD (l.getD q 0).toUInt64) := by
 subst h
 exact at64 hq
theorem toL_ofL {h : List UInt32} (hl : h.length = 8) : toL (ofL h) = h := by
 match h, hl with
 | [a, b, c, d, e, f, g, k], _ => rfl
theorem drop_getD {l : List UInt8} {o i : Nat} : l.getD (o + i) 0 = (l.drop o).getD i 0 := by
 rw [List.getD_eq_getElem?_getD, List.getD_eq_getElem?_getD, List.getElem?_drop]
theorem ld64 {PL : List UInt8} {j i : Nat} (hi : i < 64) : ((w4 (PL.drop (64 * j)) i).getD (i / 4) 0).toUInt64 * 256 + (PL.getD (64 * j + i) 0).toUInt64 = ((w4 (PL.drop (64 * j)) i).getD (i / 4) 0 <<< UInt32.ofNat 8 ||| ((PL.drop (64 * j)).getD i 0).toUInt32).toUInt64 := by
 rw [drop_getD, ld_step (w4_room hi)]
set_option maxHeartbeats 4000000 in
theorem rsum_ok {bv : Value} {bl : List UInt8} {w0 : World} (hb : Rd w0 bv (bl.map vB)) (hn : bl.length ≤ 1099511627776) :
  Calls Tryd.prog 64 #[bv, vI 32] w0 fun e w' => ∃ o op, e = .returned (.slice (some ⟨o, 0, none⟩) 32 (32 + op.length)) ∧ 32 + op.length ≤ 9223372036854775807 ∧ St w0 w' [⟨true, some o, blk 5 ((sum256 bl).map vB ++ op)⟩] := by
 obtain ⟨Ab, cb, rfl, hb1, hb2, hbc⟩ := hb.isB
 clear hbc
 refine calls_start 292 Tryd.func64 rfl Tryd.ntmps64 rfl fun a hF => ?_
 have hS := St.refl w0
 refine wK fun Kq1 hKq1 => ?_
 refine wR ?_
 refine wg hF rfl rfl rfl (gv_assign rfl (ev_const _ _)) fun a hF => ?_
 refine wN ?_
 refine tN (hKq1 _ _ ?_)
 refine wK fun Kq2 hKq2 => ?_
 refine wR ?_
 refine wg hF rfl rfl rfl (gv_assign rfl (ev_const _ _)) fun a hF => ?_
 refine wg hF rfl rfl rfl (gv_assign rfl (ev_const _ _)) fun a hF => ?_
 refine wN ?_
 refine tN (hKq2 _ _ ?_)
 refine wK fun Kq3 hKq3 => ?_
 refine wR ?_
 refine wg hF rfl rfl rfl (gv_build rfl (EvP.map (EvP.cons (ev_const _ _) (EvP.cons (ev_const _ _) (EvP.cons (ev_const _ _) EvP.nil)))) (build_i3 1 8 7 _)) fun a hF => ?_
 refine wg hF rfl rfl rfl (gv_build rfl (EvP.map (EvP.cons (ev_const _ _) (EvP.cons (ev_const _ _) (EvP.cons (ev_const _ _) EvP.nil)))) (build_i3 19 61 6 _)) fun a hF => ?_
 refine wg hF rfl rfl rfl (gv_build rfl (EvP.map (EvP.cons (ev_const _ _) (EvP.cons (ev_const _ _) (EvP.cons (ev_const _ _) EvP.nil)))) (build_i3 14 18 41 _)) fun a hF => ?_
 refine wg hF rfl rfl rfl (gv_build rfl (EvP.map (EvP.cons (ev_const _ _) (EvP.cons (ev_const _ _) (EvP.cons (ev_const _ _) EvP.nil)))) (build_i3 28 34 39 _)) fun a hF => ?_
 refine wg hF rfl rfl rfl (gv_build rfl (EvP.map (EvP.cons (hF.t rfl) (EvP.cons (hF.t rfl) (EvP.cons (hF.t rfl) (EvP.cons (hF.t rfl) EvP.nil))))) (build_t12b _)) fun a hF => ?_
 refine wpList_stp (stp_alloc hF (wanted_none rfl) rfl rfl rfl Tryd.zv147 rfl hS fun tb a w hF hS => ?_)
 refine wpList_stp (stp_storeAll hF (wanted_none rfl) rfl rfl (z147.trans (congrArg some (rfl))) (hF.t rfl) (hF.t rfl) (one_I _) hS (k := 0) rfl (rfl) fun w hS => ?_)
 refine wN ?_
 refine tN (hKq3 _ _ ?_)
 refine wK fun Kq4 hKq4 => ?_
 refine wK fun Kq5 hKq5 => ?_
 refine wR ?_
 refine wg hF rfl rfl rfl (gv_move rfl (hF.t rfl)) fun a hF => ?_
 refine wg hF rfl rfl rfl (gv_eqlT rfl (hF.t rfl) (ev_const _ _) (rfl)) fun a hF => ?_
 refine wN ?_
 refine tN (hKq5 _ _ ?_)
 refine wp_cond_true (hF.t rfl) ?_
 refine wK fun Kq6 hKq6 => ?_
 refine wR ?_
 refine wg hF rfl rfl rfl (gv_assign rfl (ev_const _ _)) fun a hF => ?_
 refine wN ?_
 refine tN (hKq6 _ _ ?_)
 refine wK fun Kq7 hKq7 => ?_
 refine wR ?_
 refine wg hF rfl rfl rfl (gv_assign rfl (ev_const _ _)) fun a hF => ?_
 refine wN ?_
 refine tN (hKq7 _ _ ?_)
 refine wR ?_
 refine wg hF rfl rfl rfl (gv_build rfl (EvP.map (EvP.cons (ev_const _ _) (EvP.cons (ev_const _ _) (EvP.cons (ev_const _ _) EvP.nil)))) (build_i3 7 18 3 _)) fun a hF => ?_
 refine wg hF rfl rfl rfl (gv_build rfl (EvP.map (EvP.cons (ev_const _ _) (EvP.cons (ev_const _ _) (EvP.cons (ev_const _ _) EvP.nil)))) (build_i3 17 19 10 _)) fun a hF => ?_
 refine wg hF rfl rfl rfl (gv_build rfl (EvP.map (EvP.cons (ev_const _ _) (EvP.cons (ev_const _ _) (EvP.cons (ev_const _ _) EvP.nil)))) (build_i3 6 11 25 _)) fun a hF => ?_
 refine wg hF rfl rfl rfl (gv_build rfl (EvP.map (EvP.cons (ev_const _ _) (EvP.cons (ev_const _ _) (EvP.cons (ev_const _ _) EvP.nil)))) (build_i3 2 13 22 _)) fun a hF => ?_
 refine wg hF rfl rfl rfl (gv_build rfl (EvP.map (EvP.cons (hF.t rfl) (EvP.cons (hF.t rfl) (EvP.cons (hF.t rfl) (EvP.cons (hF.t rfl) EvP.nil))))) (build_t12 _)) fun a hF => ?_
 refine wpList_stp (stp_storeAll hF (wanted_none rfl) rfl rfl (z147.trans (congrArg some (rfl))) (hF.t rfl) (hF.t rfl) (one_I _) hS (k := 0) rfl (rfl) fun w hS => ?_)
 refine wN ?_
 refine tN (hKq4 _ _ ?_)
 refine wK fun Kq8 hKq8 => ?_
 refine wR ?_
 refine wg hF rfl rfl rfl (gv_move rfl (hF.t rfl)) fun a hF => ?_
 refine wg hF rfl rfl rfl (gv_nmul (m := 2) rfl rfl (hF.t rfl) (by omega)) fun a hF => ?_
 refine wg hF rfl rfl rfl (gv_assign rfl (hF.t rfl)) fun a hF => ?_
 refine wN ?_
 refine tN (hKq8 _ _ ?_)
 refine wK fun Kq9 hKq9 => ?_
 refine wR ?_
 refine wg hF rfl rfl rfl (gv_move rfl (hF.t rfl)) fun a hF => ?_
 replace hS := hS.addNil (blk 5 (([] : List UInt8).map vB ++ []))
 refine wpList_stp (stp_appB (ob := none) (l := []) (pad := []) (k := 0) hF (wanted_none rfl) rfl rfl rfl u22 Tryd.ty5 rfl (ev_const _ _) (hF.t rfl) hS rfl (fun _ => ⟨rfl, rfl⟩) (by simp) (hb.ext (hS.toExt (nw_cons rfl (nw_cons rfl nw_nil)))) (by simp; omega) fun o op a w hF oo oc hS => ?_)
 simp only [List.nil_append] at hF oo oc hS
 refine wpList_stp (stp_build1 (v := 128) hF (wanted_none rfl) rfl rfl rfl u22 Tryd.ty5 rfl hS fun zb a w hF hS => ?_)
 refine wpList_stp (stp_app1 (k := 0) hF (wanted_none rfl) rfl rfl rfl u22 Tryd.ty5 rfl (hF.t rfl) (hF.t rfl) hS rfl oo oc (by omega) fun o op a w hF oo oc hS => ?_)
 refine wg hF rfl rfl rfl (gv_assign rfl (hF.t rfl)) fun a hF => ?_
 refine wN ?_
 refine tN (hKq9 _ _ ?_)
 refine wK fun Kq10 hKq10 => ?_
 refine wp_block ?_
 rw [c1_zero] at hF oo oc hS
 have hz0 := pz_lt bl.length
 refine wp_loop_n (fun n a w => ∃ (z : Nat) (o : Option Nat) (op : List Value), z ≤ pz bl.length ∧ n = pz bl.length - z ∧ (o = none → (c1 bl z) = [] ∧ op = []) ∧ ((c1 bl z)).length + op.length ≤ 9223372036854775807 ∧ Fr 292 a [(0, .slice Ab bl.length cb), (1, vI 32), (5, vI 64), (6, vD 4294967295), (7, .pointer (some ⟨tb, 0, none⟩)), (8, vI 64), (9, ownV o (c1 bl z).length ((c1 bl z).length + op.length))] ∧ St w0 w [⟨true, o, blk 5 ((c1 bl z).map vB ++ op)⟩, ⟨true, some tb, blk 147 (T12.map vI)⟩]) (pz bl.length) ⟨0, o, op, by omega, by omega, oo, oc, hF.sub ⟨rfl, rfl, rfl, rfl, rfl, rfl, rfl, trivial⟩, hS⟩ ?_
 rintro n a w ⟨z, o, op, hz, hn1, oo, oc, hF, hS⟩
 have hzl := c1_len bl z
 refine wK fun Kq11 hKq11 => ?_
 refine wK fun Kq12 hKq12 => ?_
 refine wR ?_
 refine wg hF rfl rfl rfl (gv_move rfl (hF.t rfl)) fun a hF => ?_
 refine wg hF rfl rfl rfl (gv_lenOwn rfl u22 (hF.t rfl) (fun h => by rw [(oo h).1]; rfl)) fun a hF => ?_
 refine wg hF rfl rfl rfl (gv_move rfl (hF.t rfl)) fun a hF => ?_
 refine wg hF rfl rfl rfl (gv_nquo (n := 4) rfl (hF.t rfl) rfl (by omega) (by omega)) fun a hF => ?_
 refine wg hF rfl rfl rfl (gv_nadd rfl (hF.t rfl) (hF.t rfl) (by omega)) fun a hF => ?_
 refine wg hF rfl rfl rfl (gv_move rfl (hF.t rfl)) fun a hF => ?_
 refine wg hF rfl rfl rfl (gv_nrem rfl (hF.t rfl) (hF.t rfl) (by omega)) fun a hF => ?_
 refine wg hF rfl rfl rfl (gv_neq rfl (hF.t rfl) (ev_const _ _)) fun a hF => ?_
 refine wN ?_
 refine tN (hKq12 _ _ ?_)
 refine cond_dec (hF.t rfl) (fun h52 => ?_) (fun h52 => ?_)
 ·
  refine wp_skip ?_
  refine tN (hKq11 _ _ ?_)
  refine wp_block ?_
  refine wR ?_
  refine wg hF rfl rfl rfl (gv_move rfl (hF.t rfl)) fun a hF => ?_
  refine wpList_stp (stp_build1 (v := 0) hF (wanted_none rfl) rfl rfl rfl u22 Tryd.ty5 rfl hS fun zb a w hF hS => ?_)
  refine wpList_stp (stp_app1 (k := 0) hF (wanted_none rfl) rfl rfl rfl u22 Tryd.ty5 rfl (hF.t rfl) (hF.t rfl) hS rfl oo oc (by omega) fun o op a w hF oo oc hS => ?_)
  refine wg hF rfl rfl rfl (gv_assign rfl (hF.t rfl)) fun a hF => ?_
  refine wN ?_
  refine block_normal ?_
  refine then_normal ?_
  rw [c1_succ] at hF oo oc hS
  have hlt : z < pz bl.length := by unfold pz at *; omega
  exact ⟨n - 1, by omega, z + 1, o, op, by omega, by omega, oo, oc, hF.sub ⟨rfl, rfl, rfl, rfl, rfl, rfl, rfl, trivial⟩, hS⟩
 ·
  refine wp_exit ?_
  refine then_exit ?_
  refine then_exit ?_
  refine block_exit ?_
  refine tN (hKq10 _ _ ?_)
  refine wK fun Kq13 hKq13 => ?_
  obtain rfl : z = pz bl.length := by unfold pz at *; omega
  refine wR ?_
  refine wg hF rfl rfl rfl (gv_move rfl (hF.t rfl)) fun a hF => ?_
  refine wg hF rfl rfl rfl (gv_move rfl (hF.t rfl)) fun a hF => ?_
  refine wg hF rfl rfl rfl (gv_nquo (n := 4) rfl (hF.t rfl) rfl (by omega) (by omega)) fun a hF => ?_
  refine wpList_stp (stp_appZ (k := 0) (n := 8) hF (wanted_none rfl) rfl rfl rfl u22 u3 u9 Tryd.ty5 (hF.t rfl) (hF.t rfl) (by decide) hS rfl oo oc (by omega) fun o op a w hF oo oc hS => ?_)
  refine wg hF rfl rfl rfl (gv_assign rfl (hF.t rfl)) fun a hF => ?_
  refine wN ?_
  refine tN (hKq13 _ _ ?_)
  refine wK fun Kq14 hKq14 => ?_
  rw [TX_zero] at hF oo oc hS
  refine wR ?_
  refine wg hF rfl rfl rfl (gv_move rfl (hF.t rfl)) fun a hF => ?_
  refine wg hF rfl rfl rfl (gv_len rfl u22 (hF.t rfl)) fun a hF => ?_
  refine wg hF rfl rfl rfl (gv_conv_i_d rfl u3 u76 (hF.t rfl)) fun a hF => ?_
  refine wg hF rfl rfl rfl (gv_d_mul (n := 8) rfl (hF.t rfl) rfl) fun a hF => ?_
  refine wg hF rfl rfl rfl (gv_assign rfl (hF.t rfl)) fun a hF => ?_
  refine wN ?_
  refine tN (hKq14 _ _ ?_)
  refine wK fun Kq15 hKq15 => ?_
  refine wK fun Kq16 hKq16 => ?_
  refine wR ?_
  refine wg hF rfl rfl rfl (gv_assign rfl (ev_const _ _)) fun a hF => ?_
  refine wN ?_
  refine tN (hKq16 _ _ ?_)
  refine wp_block ?_
  obtain ⟨o, rfl⟩ := own_some oo (by rw [TX_len _ _ (by omega)]; omega)
  obtain ⟨NL, hNL⟩ : ∃ NL, NL = (padF bl).length := ⟨_, rfl⟩
  have hT : ∀ q, q ≤ 8 → (TX bl q).length = NL := fun q hq0 => by rw [TX_len _ _ hq0, hNL, ← TX_pad, TX_len _ _ (Nat.le_refl 8)]
  rw [hT 0 (by omega)] at hF oc
  have hNb : 9 ≤ NL ∧ NL ≤ 2199023255552 := by rw [hNL, padF_len]; have := pz_lt bl.length; omega
  refine wp_loop_n (fun q1 a w => ∃ q, q ≤ 8 ∧ q1 = 8 - q ∧ Fr 292 a [(1, vI 32), (5, vI 64), (6, vD 4294967295), (7, .pointer (some ⟨tb, 0, none⟩)), (8, vI 64), (9, .slice (some ⟨o, 0, none⟩) NL (NL + op.length)), (10, vD (UInt64.ofNat bl.length * 8)), (11, vI q)] ∧ St w0 w [⟨true, some o, blk 5 ((TX bl q).map vB ++ op)⟩, ⟨true, some tb, blk 147 (T12.map vI)⟩]) 8 ⟨0, by omega, by omega, hF.sub ⟨rfl, rfl, rfl, rfl, rfl, rfl, rfl, rfl, trivial⟩, hS⟩ ?_
  rintro q1 a w ⟨q, hq0, hq1, hF, hS⟩
  refine wK fun Kq17 hKq17 => ?_
  refine wK fun Kq18 hKq18 => ?_
  refine wR ?_
  refine wg hF rfl rfl rfl (gv_move rfl (hF.t rfl)) fun a hF => ?_
  refine wg hF rfl rfl rfl (gv_lss rfl (hF.t rfl) (ev_const _ _)) fun a hF => ?_
  refine wN ?_
  refine tN (hKq18 _ _ ?_)
  refine cond_dec (hF.t rfl) (fun h65 => ?_) (fun h65 => ?_)
  ·
   refine wp_skip ?_
   refine tN (hKq17 _ _ ?_)
   refine wK fun Kq19 hKq19 => ?_
   refine wp_block ?_
   refine wR ?_
   refine wg hF rfl rfl rfl (gv_move rfl (hF.t rfl)) fun a hF => ?_
   refine wg hF rfl rfl rfl (gv_move rfl (hF.t rfl)) fun a hF => ?_
   refine wg hF rfl rfl rfl (gv_len rfl u22 (hF.t rfl)) fun a hF => ?_
   refine wg hF rfl rfl rfl (gv_nsub (n := 1) rfl (hF.t rfl) rfl (by omega) (by omega)) fun a hF => ?_
   refine wg hF rfl rfl rfl (gv_move rfl (hF.t rfl)) fun a hF => ?_
   refine wg hF rfl rfl rfl (gv_nsub rfl (hF.t rfl) (hF.t rfl) (by omega) (by omega)) fun a hF => ?_
   refine wg hF rfl rfl rfl (gv_move rfl (hF.t rfl)) fun a hF => ?_
   refine wg hF rfl rfl rfl (gv_move rfl (hF.t rfl)) fun a hF => ?_
   refine wg hF rfl rfl rfl (gv_nmul (m := 8) rfl rfl (hF.t rfl) (by omega)) fun a hF => ?_
   refine wg hF rfl rfl rfl (gv_d_shr rfl (hF.t rfl) (hF.t rfl) (by omega)) fun a hF => ?_
   refine wg hF rfl rfl rfl (gv_conv_d_b rfl u76 u5 (hF.t rfl)) fun a hF => ?_
   refine wg hF rfl rfl rfl (gv_indexSl rfl u22 z5 (hF.t rfl) (hF.t rfl) (by omega)) fun a hF => ?_
   refine wpList_stp (stp_storeAt (NL - 1 - q) hF (wanted_none rfl) rfl rfl z5 (hF.t rfl) (by omega) (hF.t rfl) rfl hS (k := 0) rfl (by rw [List.length_append, List.length_map, hT q (by omega)]; omega) fun w hS => ?_)
   rw [own_set (by rw [hT q (by omega)]; omega), ← hT q (by omega), TX_set _ _ (by omega)] at hS
   refine wN ?_
   refine block_normal ?_
   refine tN (hKq19 _ _ ?_)
   refine wR ?_
   refine wg hF rfl rfl rfl (gv_move rfl (hF.t rfl)) fun a hF => ?_
   refine wg hF rfl rfl rfl (gv_nadd (n := 1) rfl (hF.t rfl) rfl (by omega)) fun a hF => ?_
   refine wg hF rfl rfl rfl (gv_assign rfl (hF.t rfl)) fun a hF => ?_
   refine wN ?_
   refine then_normal ?_
   exact ⟨q1 - 1, by omega, q + 1, by omega, by omega, hF.sub ⟨rfl, rfl, rfl, rfl, rfl, rfl, rfl, rfl, trivial⟩, hS⟩
  ·
   refine wp_exit ?_
   refine then_exit ?_
   refine then_exit ?_
   refine block_exit ?_
   refine tN (hKq15 _ _ ?_)
   refine wK fun Kq20 hKq20 => ?_
   obtain rfl : q = 8 := by omega
   obtain ⟨PL, hPL⟩ : ∃ PL, PL = padF bl := ⟨_, rfl⟩
   rw [TX_pad, ← hPL] at hS
   rw [← hPL] at hNL
   subst hNL
   refine wR ?_
   refine wpList_stp (stp_call hF (wanted_none rfl) rfl rfl Tryd.ok84 rfl Evs.nil (squares_ok) fun e w h => ?_)
   obtain ⟨rfl, hx⟩ := h
   refine ⟨_, rfl, fun a hF => ?_⟩
   replace hS := hS.ext hx
   clear hx
   refine wpList_stp (stp_alloc hF (wanted_none rfl) rfl rfl rfl Tryd.zv148 rfl hS fun hh a w hF hS => ?_)
   refine wpList_stp (stp_storeAll hF (wanted_none rfl) rfl rfl (z148.trans (congrArg some (rfl))) (hF.t rfl) (hF.t rfl) (one_D _) hS (k := 0) rfl (rfl) fun w hS => ?_)
   refine wN ?_
   refine tN (hKq20 _ _ ?_)
   refine wK fun Kq21 hKq21 => ?_
   refine wR ?_
   refine wpList_stp (stp_call hF (wanted_none rfl) rfl rfl Tryd.ok85 rfl Evs.nil (roots_ok) fun e w h => ?_)
   obtain ⟨rfl, hx⟩ := h
   refine ⟨_, rfl, fun a hF => ?_⟩
   replace hS := hS.ext hx
   clear hx
   refine wpList_stp (stp_alloc hF (wanted_none rfl) rfl rfl rfl Tryd.zv150 rfl hS fun kk a w hF hS => ?_)
   refine wpList_stp (stp_storeAll hF (wanted_none rfl) rfl rfl (z150.trans (congrArg some (rfl))) (hF.t rfl) (hF.t rfl) (one_D _) hS (k := 0) rfl (rfl) fun w hS => ?_)
   refine wN ?_
   refine tN (hKq21 _ _ ?_)
   refine wK fun Kq22 hKq22 => ?_
   refine wK fun Kq23 hKq23 => ?_
   refine wR ?_
   refine wg hF rfl rfl rfl (gv_assign rfl (ev_const _ _)) fun a hF => ?_
   refine wN ?_
   refine tN (hKq23 _ _ ?_)
   refine wp_block ?_
   refine wp_loop_n (fun q a w => ∃ i, i ≤ 8 ∧ q = 8 - i ∧ Fr 292 a [(1, vI 32), (5, vI 64), (6, vD 4294967295), (7, .pointer (some ⟨tb, 0, none⟩)), (8, vI 64), (9, .slice (some ⟨o, 0, none⟩) PL.length (PL.length + op.length)), (12, .pointer (some ⟨hh, 0, none⟩)), (13, .pointer (some ⟨kk, 0, none⟩)), (14, vI i)] ∧ St w0 w [⟨true, some kk, blkD 150 stepsL⟩, ⟨true, some hh, blkD 148 (hq i)⟩, ⟨true, some o, blk 5 (PL.map vB ++ op)⟩, ⟨true, some tb, blk 147 (T12.map vI)⟩]) 8 ⟨0, by omega, by omega, hF.sub ⟨rfl, rfl, rfl, rfl, rfl, rfl, rfl, rfl, rfl, trivial⟩, hS⟩ ?_
   rintro q a w ⟨i, hi, hq1, hF, hS⟩
   refine wK fun Kq24 hKq24 => ?_
   refine wK fun Kq25 hKq25 => ?_
   refine wR ?_
   refine wg hF rfl rfl rfl (gv_move rfl (hF.t rfl)) fun a hF => ?_
   refine wg hF rfl rfl rfl (gv_lss rfl (hF.t rfl) (ev_const _ _)) fun a hF => ?_
   refine wN ?_
   refine tN (hKq25 _ _ ?_)
   refine cond_dec (hF.t rfl) (fun h83 => ?_) (fun h83 => ?_)
   ·
    refine wp_skip ?_
    refine tN (hKq24 _ _ ?_)
    refine wK fun Kq26 hKq26 => ?_
    refine wp_block ?_
    refine wR ?_
    refine wg hF rfl rfl rfl (gv_move rfl (hF.t rfl)) fun a hF => ?_
    refine wg hF rfl rfl rfl (gv_move rfl (hF.t rfl)) fun a hF => ?_
    refine wg hF rfl rfl rfl (gv_indexArr rfl u148 z76 (hF.t rfl) (hF.t rfl) (by omega)) fun a hF => ?_
    refine wg hF rfl rfl rfl (gv_load rfl u76 rfl (hF.t rfl) (cell_ix (hS.cellD (k := 1) rfl (i) (by rw [hq_len]; omega)) (by omega))) fun a hF => ?_
    refine wg hF rfl rfl rfl (gv_move rfl (hF.t rfl)) fun a hF => ?_
    refine wg hF rfl rfl rfl (gv_nsub (m := 64) rfl rfl (hF.t rfl) (by omega) (by omega)) fun a hF => ?_
    refine wg hF rfl rfl rfl (gv_d_shr rfl (hF.t rfl) (hF.t rfl) (by omega)) fun a hF => ?_
    refine wg hF rfl rfl rfl (gv_indexArr rfl u148 z76 (hF.t rfl) (hF.t rfl) (by omega)) fun a hF => ?_
    refine wpList_stp (stp_storeD (i) hF (wanted_none rfl) rfl rfl z76 (hF.t rfl) (by omega) (hF.t rfl) hS (k := 1) rfl (by rw [hq_len]; omega) fun w hS => ?_)
    refine wN ?_
    refine block_normal ?_
    refine tN (hKq26 _ _ ?_)
    refine wR ?_
    refine wg hF rfl rfl rfl (gv_move rfl (hF.t rfl)) fun a hF => ?_
    refine wg hF rfl rfl rfl (gv_nadd (n := 1) rfl (hF.t rfl) rfl (by omega)) fun a hF => ?_
    refine wg hF rfl rfl rfl (gv_assign rfl (hF.t rfl)) fun a hF => ?_
    refine wN ?_
    refine then_normal ?_
    exact ⟨q - 1, by omega, i + 1, by omega, by omega, hF.sub ⟨rfl, rfl, rfl, rfl, rfl, rfl, rfl, rfl, rfl, trivial⟩, hS⟩
   ·
    refine wp_exit ?_
    refine then_exit ?_
    refine then_exit ?_
    refine block_exit ?_
    refine tN (hKq22 _ _ ?_)
    refine wK fun Kq27 hKq27 => ?_
    refine wK fun Kq28 hKq28 => ?_
    refine wR ?_
    refine wg hF rfl rfl rfl (gv_assign rfl (ev_const _ _)) fun a hF => ?_
    refine wN ?_
    refine tN (hKq28 _ _ ?_)
    refine wp_block ?_
    obtain ⟨M, hM⟩ : ∃ M, PL.length = 64 * M := ⟨_, by rw [hPL]; exact padF_mul bl⟩
    obtain rfl : i = 8 := by omega
    rw [show blkD 148 (hq 8) = blk 148 ((hsA PL 0).map v64) from congrArg (blk _) hq8v] at hS
    refine wp_loop_n (fun n a w => ∃ j, j ≤ M ∧ n = M - j ∧ Fr 292 a [(1, vI 32), (5, vI 64), (6, vD 4294967295), (7, .pointer (some ⟨tb, 0, none⟩)), (8, vI 64), (9, .slice (some ⟨o, 0, none⟩) PL.length (PL.length + op.length)), (12, .pointer (some ⟨hh, 0, none⟩)), (13, .pointer (some ⟨kk, 0, none⟩)), (15, vI (64 * j))] ∧ St w0 w [⟨true, some kk, blkD 150 stepsL⟩, ⟨true, some hh, blk 148 ((hsA PL j).map v64)⟩, ⟨true, some o, blk 5 (PL.map vB ++ op)⟩, ⟨true, some tb, blk 147 (T12.map vI)⟩]) M ⟨0, by omega, by omega, hF.sub ⟨rfl, rfl, rfl, rfl, rfl, rfl, rfl, rfl, rfl, trivial⟩, hS⟩ ?_
    rintro n a w ⟨j, hj, hq1, hF, hS⟩
    have hHl := hsA_len PL j
    refine wK fun Kq29 hKq29 => ?_
    refine wK fun Kq30 hKq30 => ?_
    refine wR ?_
    refine wg hF rfl rfl rfl (gv_move rfl (hF.t rfl)) fun a hF => ?_
    refine wg hF rfl rfl rfl (gv_move rfl (hF.t rfl)) fun a hF => ?_
    refine wg hF rfl rfl rfl (gv_len rfl u22 (hF.t rfl)) fun a hF => ?_
    refine wg hF rfl rfl rfl (gv_lss rfl (hF.t rfl) (hF.t rfl)) fun a hF => ?_
    refine wN ?_
    refine tN (hKq30 _ _ ?_)
    refine cond_dec (hF.t rfl) (fun h97 => ?_) (fun h97 => ?_)
    ·
     refine wp_skip ?_
     refine tN (hKq29 _ _ ?_)
     refine wK fun Kq31 hKq31 => ?_
     refine wp_block ?_
     refine wK fun Kq32 hKq32 => ?_
     refine wR ?_
     refine wpList_stp (stp_alloc hF (wanted_none rfl) rfl rfl rfl Tryd.zv150 rfl hS fun xx a w hF hS => ?_)
     rw [x80_zero (PL.drop (64 * j))] at hS
     refine wN ?_
     refine tN (hKq32 _ _ ?_)
     refine wK fun Kq33 hKq33 => ?_
     refine wK fun Kq34 hKq34 => ?_
     refine wR ?_
     refine wg hF rfl rfl rfl (gv_assign rfl (ev_const _ _)) fun a hF => ?_
     refine wN ?_
     refine tN (hKq34 _ _ ?_)
     refine wp_block ?_
     refine wp_loop_n (fun q a w => ∃ i, i ≤ 64 ∧ q = 64 - i ∧ Fr 292 a [(1, vI 32), (5, vI 64), (6, vD 4294967295), (7, .pointer (some ⟨tb, 0, none⟩)), (8, vI 64), (9, .slice (some ⟨o, 0, none⟩) PL.length (PL.length + op.length)), (12, .pointer (some ⟨hh, 0, none⟩)), (13, .pointer (some ⟨kk, 0, none⟩)), (15, vI (64 * j)), (16, .pointer (some ⟨xx, 0, none⟩)), (17, vI i)] ∧ St w0 w [⟨true, some xx, blk 150 (X80 (w4 (PL.drop (64 * j)) i))⟩, ⟨true, some kk, blkD 150 stepsL⟩, ⟨true, some hh, blk 148 ((hsA PL j).map v64)⟩, ⟨true, some o, blk 5 (PL.map vB ++ op)⟩, ⟨true, some tb, blk 147 (T12.map vI)⟩]) 64 ⟨0, by omega, by omega, hF.sub ⟨rfl, rfl, rfl, rfl, rfl, rfl, rfl, rfl, rfl, rfl, rfl, trivial⟩, hS⟩ ?_
     rintro q a w ⟨i, hi, hq1, hF, hS⟩
     refine wK fun Kq35 hKq35 => ?_
     refine wK fun Kq36 hKq36 => ?_
     refine wR ?_
     refine wg hF rfl rfl rfl (gv_move rfl (hF.t rfl)) fun a hF => ?_
     refine wg hF rfl rfl rfl (gv_move rfl (hF.t rfl)) fun a hF => ?_
     refine wg hF rfl rfl rfl (gv_lss rfl (hF.t rfl) (hF.t rfl)) fun a hF => ?_
     refine wN ?_
     refine tN (hKq36 _ _ ?_)
     refine cond_dec (hF.t rfl) (fun h103 => ?_) (fun h103 => ?_)
     ·
      refine wp_skip ?_
      refine tN (hKq35 _ _ ?_)
      refine wK fun Kq37 hKq37 => ?_
      refine wp_block ?_
      refine Fw.wp_region_draw (by kernel_rfl) fun w hx => ?_
      replace hS := hS.ext hx
      clear hx
      refine run_head0 (n := 20) _ hF (by kernel_rfl) rfl ?_
      refine dg hF rfl rfl rfl rfl (fun w hx => gv_move rfl (hF.t rfl)) fun a hF => ?_
      refine dg hF rfl rfl rfl rfl (fun w hx => gv_nmul (m := 8) rfl rfl (hF.t rfl) (by omega)) fun a hF => ?_
      refine dg hF rfl rfl rfl rfl (fun w hx => gv_move rfl (hF.t rfl)) fun a hF => ?_
      refine dg hF rfl rfl rfl rfl (fun w hx => gv_nquo rfl (hF.t rfl) (hF.t rfl) (by omega) (by omega)) fun a hF => ?_
      refine dg hF rfl rfl rfl rfl (fun w hx => gv_move rfl (hF.t rfl)) fun a hF => ?_
      refine dg hF rfl rfl rfl rfl (fun w hx => gv_nmul (m := 8) rfl rfl (hF.t rfl) (by omega)) fun a hF => ?_
      refine dg hF rfl rfl rfl rfl (fun w hx => gv_move rfl (hF.t rfl)) fun a hF => ?_
      refine dg hF rfl rfl rfl rfl (fun w hx => gv_nquo rfl (hF.t rfl) (hF.t rfl) (by omega) (by omega)) fun a hF => ?_
      refine dg hF rfl rfl rfl rfl (fun w hx => gv_indexArr rfl u150 z76 (hF.t rfl) (hF.t rfl) (by omega)) fun a hF => ?_
      refine dg hF rfl rfl rfl rfl (fun w hx => gv_load rfl u76 rfl (hF.t rfl) (cell_ix (j := 8 * i / 32) ((hS.ext hx).cell (k := 0) rfl (x80_at (q := i / 4) (by omega) (by rw [w4_len]; omega))) (by omega))) fun a hF => ?_
      refine dg hF rfl rfl rfl rfl (fun w hx => gv_d_mul (n := 256) rfl (hF.t rfl) rfl) fun a hF => ?_
      refine dg hF rfl rfl rfl rfl (fun w hx => gv_move rfl (hF.t rfl)) fun a hF => ?_
      refine dg hF rfl rfl rfl rfl (fun w hx => gv_move rfl (hF.t rfl)) fun a hF => ?_
      refine dg hF rfl rfl rfl rfl (fun w hx => gv_move rfl (hF.t rfl)) fun a hF => ?_
      refine dg hF rfl rfl rfl rfl (fun w hx => gv_nadd rfl (hF.t rfl) (hF.t rfl) (by omega)) fun a hF => ?_
      refine dg hF rfl rfl rfl rfl (fun w hx => gv_indexSl rfl u22 z5 (hF.t rfl) (hF.t rfl) (by omega)) fun a hF => ?_
      refine dg hF rfl rfl rfl rfl (fun w hx => gv_load rfl u5 rfl (hF.t rfl) (cell_ix (j := 64 * j + i) ((hS.ext hx).cell (k := 3) rfl (at_map (by omega) 0)) (by omega))) fun a hF => ?_
      refine dg hF rfl rfl rfl rfl (fun w hx => gv_conv_b_d rfl u5 u76 (hF.t rfl)) fun a hF => ?_
      refine dg hF rfl rfl rfl rfl (fun w hx => gv_d_add rfl (hF.t rfl) (hF.t rfl)) fun a hF => ?_
      rw [ld64 (by omega)] at hF
      refine dg hF rfl rfl rfl rfl (fun w hx => gv_indexArr rfl u150 z76 (hF.t rfl) (hF.t rfl) (by omega)) fun a hF => ?_
      refine dw_nil fun a w hA hx => ?_
      replace hF := hA _ hF
      replace hS := hS.ext hx
      clear hA hx
      refine run_stp (by kernel_rfl) rfl (stp_storeAt (8 * i / 32) hF (wanted_none rfl) rfl rfl z76 (hF.t rfl) (by omega) (hF.t rfl) rfl hS (k := 0) rfl (by rw [x80_len, w4_len]; omega) fun w hS => ?_)
      rw [x80_set (q := i / 4) (by omega) (by rw [w4_len]; omega)] at hS
      refine run_done (by decide) ?_
      refine block_normal ?_
      refine tN (hKq37 _ _ ?_)
      refine wR ?_
      refine wg hF rfl rfl rfl (gv_move rfl (hF.t rfl)) fun a hF => ?_
      refine wg hF rfl rfl rfl (gv_nadd (n := 1) rfl (hF.t rfl) rfl (by omega)) fun a hF => ?_
      refine wg hF rfl rfl rfl (gv_assign rfl (hF.t rfl)) fun a hF => ?_
      refine wN ?_
      refine then_normal ?_
      exact ⟨q - 1, by omega, i + 1, by omega, by omega, hF.sub ⟨rfl, rfl, rfl, rfl, rfl, rfl, rfl, rfl, rfl, rfl, rfl, trivial⟩, hS⟩
     ·
      refine wp_exit ?_
      refine then_exit ?_
      refine then_exit ?_
      refine block_exit ?_
      refine tN (hKq33 _ _ ?_)
      refine wK fun Kq38 hKq38 => ?_
      refine wK fun Kq39 hKq39 => ?_
      refine wR ?_
      refine wg hF rfl rfl rfl (gv_assign rfl (ev_const _ _)) fun a hF => ?_
      refine wN ?_
      refine tN (hKq39 _ _ ?_)
      refine wp_block ?_
      obtain rfl : i = 64 := by omega
      refine wp_loop_n (fun q a w => ∃ i, i ≤ 48 ∧ q = 48 - i ∧ Fr 292 a [(1, vI 32), (5, vI 64), (6, vD 4294967295), (7, .pointer (some ⟨tb, 0, none⟩)), (8, vI 64), (9, .slice (some ⟨o, 0, none⟩) PL.length (PL.length + op.length)), (12, .pointer (some ⟨hh, 0, none⟩)), (13, .pointer (some ⟨kk, 0, none⟩)), (15, vI (64 * j)), (16, .pointer (some ⟨xx, 0, none⟩)), (18, vI (i + 16))] ∧ St w0 w [⟨true, some xx, blk 150 (X80 (w6 (w4 (PL.drop (64 * j)) 64) i))⟩, ⟨true, some kk, blkD 150 stepsL⟩, ⟨true, some hh, blk 148 ((hsA PL j).map v64)⟩, ⟨true, some o, blk 5 (PL.map vB ++ op)⟩, ⟨true, some tb, blk 147 (T12.map vI)⟩]) 48 ⟨0, by omega, by omega, hF.sub ⟨rfl, rfl, rfl, rfl, rfl, rfl, rfl, rfl, rfl, rfl, rfl, trivial⟩, hS⟩ ?_
      rintro q a w ⟨i, hi, hq1, hF, hS⟩
      refine wK fun Kq40 hKq40 => ?_
      refine wK fun Kq41 hKq41 => ?_
      refine wR ?_
      refine wg hF rfl rfl rfl (gv_move rfl (hF.t rfl)) fun a hF => ?_
      refine wg hF rfl rfl rfl (gv_move rfl (hF.t rfl)) fun a hF => ?_
      refine wg hF rfl rfl rfl (gv_lss rfl (hF.t rfl) (hF.t rfl)) fun a hF => ?_
      refine wN ?_
      refine tN (hKq41 _ _ ?_)
      refine cond_dec (hF.t rfl) (fun h128 => ?_) (fun h128 => ?_)
      ·
       refine wp_skip ?_
       refine tN (hKq40 _ _ ?_)
       refine wK fun Kq42 hKq42 => ?_
       refine wp_block ?_
       refine Fw.wp_region_draw (by kernel_rfl) fun w hx => ?_
       replace hS := hS.ext hx
       clear hx
       refine run_head0 (n := 31) _ hF (by kernel_rfl) rfl ?_
       refine dg hF rfl rfl rfl rfl (fun w hx => gv_move rfl (hF.t rfl)) fun a hF => ?_
       refine dg hF rfl rfl rfl rfl (fun w hx => gv_move rfl (hF.t rfl)) fun a hF => ?_
       refine dg hF rfl rfl rfl rfl (fun w hx => gv_nsub (n := 16) rfl (hF.t rfl) rfl (by omega) (by omega)) fun a hF => ?_
       refine dg hF rfl rfl rfl rfl (fun w hx => gv_indexArr rfl u150 z76 (hF.t rfl) (hF.t rfl) (by omega)) fun a hF => ?_
       refine dg hF rfl rfl rfl rfl (fun w hx => gv_load rfl u76 rfl (hF.t rfl) (cell_ix (j := i) ((hS.ext hx).cell (k := 0) rfl (x80_at (q := i) rfl (by rw [w6_len, w4_len]; omega))) (by omega))) fun a hF => ?_
       refine dg hF rfl rfl rfl rfl (fun w hx => gv_move rfl (hF.t rfl)) fun a hF => ?_
       refine dg hF rfl rfl rfl rfl (fun w hx => gv_nsub (n := 7) rfl (hF.t rfl) rfl (by omega) (by omega)) fun a hF => ?_
       refine dg hF rfl rfl rfl rfl (fun w hx => gv_indexArr rfl u150 z76 (hF.t rfl) (hF.t rfl) (by omega)) fun a hF => ?_
       refine dg hF rfl rfl rfl rfl (fun w hx => gv_load rfl u76 rfl (hF.t rfl) (cell_ix (j := i + 9) ((hS.ext hx).cell (k := 0) rfl (x80_at (q := i + 9) rfl (by rw [w6_len, w4_len]; omega))) (by omega))) fun a hF => ?_
       refine dg hF rfl rfl rfl rfl (fun w hx => gv_d_add rfl (hF.t rfl) (hF.t rfl)) fun a hF => ?_
       refine dg hF rfl rfl rfl rfl (fun w hx => gv_move rfl (hF.t rfl)) fun a hF => ?_
       refine dg hF rfl rfl rfl rfl (fun w hx => gv_nsub (n := 15) rfl (hF.t rfl) rfl (by omega) (by omega)) fun a hF => ?_
       refine dg hF rfl rfl rfl rfl (fun w hx => gv_indexArr rfl u150 z76 (hF.t rfl) (hF.t rfl) (by omega)) fun a hF => ?_
       refine dg hF rfl rfl rfl rfl (fun w hx => gv_load rfl u76 rfl (hF.t rfl) (cell_ix (j := i + 1) ((hS.ext hx).cell (k := 0) rfl (x80_at (q := i + 1) rfl (by rw [w6_len, w4_len]; omega))) (by omega))) fun a hF => ?_
       refine dg hF rfl rfl rfl rfl (fun w hx => gv_indexArr (q := 0) rfl u147 z64 (hF.t rfl) rfl (by omega)) fun a hF => ?_
       refine dg hF rfl rfl rfl rfl (fun w hx => gv_loadPartAt (j := 0) (vs := [vI 7, vI 18, vI 3]) rfl u64 rfl (z64.trans (congrArg some (rfl))) (hF.t rfl) (by omega) (hS.ext hx) (k := 4) rfl (rfl)) fun a hF => ?_
       refine dg hF rfl rfl rfl rfl (fun w hx => gv_move rfl (hF.t rfl)) fun a hF => ?_
       refine dw_call hF rfl (wanted_none rfl) rfl rfl Tryd.ok86 rfl (Evs.cons (hF.t rfl) (Evs.cons (hF.t rfl) (Evs.cons (ev_const _ _) (Evs.cons (hF.t rfl) Evs.nil)))) (fun w hx => rmix_t (n1 := 7) (n2 := 18) (n3 := 3) (by decide) (by decide) (by decide)) fun a hF => ?_
       refine dg hF rfl rfl rfl rfl (fun w hx => gv_d_add rfl (hF.t rfl) (hF.t rfl)) fun a hF => ?_
       refine dg hF rfl rfl rfl rfl (fun w hx => gv_move rfl (hF.t rfl)) fun a hF => ?_
       refine dg hF rfl rfl rfl rfl (fun w hx => gv_nsub (n := 2) rfl (hF.t rfl) rfl (by omega) (by omega)) fun a hF => ?_
       refine dg hF rfl rfl rfl rfl (fun w hx => gv_indexArr rfl u150 z76 (hF.t rfl) (hF.t rfl) (by omega)) fun a hF => ?_
       refine dg hF rfl rfl rfl rfl (fun w hx => gv_load rfl u76 rfl (hF.t rfl) (cell_ix (j := i + 14) ((hS.ext hx).cell (k := 0) rfl (x80_at (q := i + 14) rfl (by rw [w6_len, w4_len]; omega))) (by omega))) fun a hF => ?_
       refine dg hF rfl rfl rfl rfl (fun w hx => gv_indexArr (q := 1) rfl u147 z64 (hF.t rfl) rfl (by omega)) fun a hF => ?_
       refine dg hF rfl rfl rfl rfl (fun w hx => gv_loadPartAt (j := 3) (vs := [vI 17, vI 19, vI 10]) rfl u64 rfl (z64.trans (congrArg some (rfl))) (hF.t rfl) (by omega) (hS.ext hx) (k := 4) rfl (rfl)) fun a hF => ?_
       refine dg hF rfl rfl rfl rfl (fun w hx => gv_move rfl (hF.t rfl)) fun a hF => ?_
       refine dw_call hF rfl (wanted_none rfl) rfl rfl Tryd.ok86 rfl (Evs.cons (hF.t rfl) (Evs.cons (hF.t rfl) (Evs.cons (ev_const _ _) (Evs.cons (hF.t rfl) Evs.nil)))) (fun w hx => rmix_t (n1 := 17) (n2 := 19) (n3 := 10) (by decide) (by decide) (by decide)) fun a hF => ?_
       refine dg hF rfl rfl rfl rfl (fun w hx => gv_d_add rfl (hF.t rfl) (hF.t rfl)) fun a hF => ?_
       refine dg hF rfl rfl rfl rfl (fun w hx => gv_move rfl (hF.t rfl)) fun a hF => ?_
       refine dg hF rfl rfl rfl rfl (fun w hx => gv_d_and rfl (hF.t rfl) (hF.t rfl)) fun a hF => ?_
       rw [w64] at hF
       refine dg hF rfl rfl rfl rfl (fun w hx => gv_indexArr rfl u150 z76 (hF.t rfl) (hF.t rfl) (by omega)) fun a hF => ?_
       refine dw_nil fun a w hA hx => ?_
       replace hF := hA _ hF
       replace hS := hS.ext hx
       clear hA hx
       refine run_stp (by kernel_rfl) rfl (stp_storeAt (i + 16) hF (wanted_none rfl) rfl rfl z76 (hF.t rfl) (by omega) (hF.t rfl) rfl hS (k := 0) rfl (by rw [x80_len, w6_len, w4_len]; omega) fun w hS => ?_)
       rw [x80_set (q := i + 16) rfl (by rw [w6_len, w4_len]; omega)] at hS
       refine run_done (by decide) ?_
       refine block_normal ?_
       refine tN (hKq42 _ _ ?_)
       refine wR ?_
       refine wg hF rfl rfl rfl (gv_move rfl (hF.t rfl)) fun a hF => ?_
       refine wg hF rfl rfl rfl (gv_nadd (n := 1) rfl (hF.t rfl) rfl (by omega)) fun a hF => ?_
       refine wg hF rfl rfl rfl (gv_assign rfl (hF.t rfl)) fun a hF => ?_
       refine wN ?_
       refine then_normal ?_
       exact ⟨q - 1, by omega, i + 1, by omega, by omega, hF.sub ⟨rfl, rfl, rfl, rfl, rfl, rfl, rfl, rfl, rfl, rfl, rfl, trivial⟩, hS⟩
      ·
       refine wp_exit ?_
       refine then_exit ?_
       refine then_exit ?_
       refine block_exit ?_
       refine tN (hKq38 _ _ ?_)
       refine wK fun Kq43 hKq43 => ?_
       obtain rfl : i = 48 := by omega
       obtain ⟨W, hW⟩ : ∃ W, W = wS (PL.drop (64 * j)) := ⟨_, rfl⟩
       obtain ⟨Hh, hHh⟩ : ∃ Hh, Hh = hsA PL j := ⟨_, rfl⟩
       have hWl := wS_len (PL.drop (64 * j))
       rw [show w6 (w4 (PL.drop (64 * j)) 64) 48 = W from hW.symm, ← hHh] at hS
       rw [← hW] at hWl
       rw [← hHh] at hHl
       refine wR ?_
       refine wg hF rfl rfl rfl (gv_loadAll rfl u148 rfl (z148.trans (congrArg some (by rw [List.length_map, hHl]))) (hF.t rfl) hS (k := 2) rfl) fun a hF => ?_
       refine wpList_stp (stp_alloc hF (wanted_none rfl) rfl rfl rfl Tryd.zv148 rfl hS fun vv a w hF hS => ?_)
       refine wpList_stp (stp_storeAll hF (wanted_none rfl) rfl rfl (z148.trans (congrArg some (by rw [List.length_map, hHl]))) (hF.t rfl) (hF.t rfl) (one64v _) hS (k := 0) rfl (by rw [List.length_map, hHl]; rfl) fun w hS => ?_)
       refine wN ?_
       refine tN (hKq43 _ _ ?_)
       refine wK fun Kq44 hKq44 => ?_
       refine wK fun Kq45 hKq45 => ?_
       refine wR ?_
       refine wg hF rfl rfl rfl (gv_assign rfl (ev_const _ _)) fun a hF => ?_
       refine wN ?_
       refine tN (hKq45 _ _ ?_)
       refine wp_block ?_
       replace hS : St w0 w [⟨true, some vv, blk 148 ((toL (ofL Hh)).map v64)⟩, ⟨true, some xx, blk 150 (X80 (W))⟩, ⟨true, some kk, blkD 150 stepsL⟩, ⟨true, some hh, blk 148 ((Hh).map v64)⟩, ⟨true, some o, blk 5 (PL.map vB ++ op)⟩, ⟨true, some tb, blk 147 (T12.map vI)⟩] := by rw [toL_ofL hHl]; exact hS
       refine wp_loop_n (fun q a w => ∃ i v, i ≤ 64 ∧ q = 64 - i ∧ v = rds (ofL Hh) W i ∧ Fr 292 a [(1, vI 32), (5, vI 64), (6, vD 4294967295), (7, .pointer (some ⟨tb, 0, none⟩)), (8, vI 64), (9, .slice (some ⟨o, 0, none⟩) PL.length (PL.length + op.length)), (12, .pointer (some ⟨hh, 0, none⟩)), (13, .pointer (some ⟨kk, 0, none⟩)), (15, vI (64 * j)), (16, .pointer (some ⟨xx, 0, none⟩)), (19, .pointer (some ⟨vv, 0, none⟩)), (20, vI i)] ∧ St w0 w [⟨true, some vv, blk 148 ((toL v).map v64)⟩, ⟨true, some xx, blk 150 (X80 (W))⟩, ⟨true, some kk, blkD 150 stepsL⟩, ⟨true, some hh, blk 148 ((Hh).map v64)⟩, ⟨true, some o, blk 5 (PL.map vB ++ op)⟩, ⟨true, some tb, blk 147 (T12.map vI)⟩]) 64 ⟨0, ofL Hh, by omega, by omega, rfl, hF.sub ⟨rfl, rfl, rfl, rfl, rfl, rfl, rfl, rfl, rfl, rfl, rfl, rfl, trivial⟩, hS⟩ ?_
       rintro q a w ⟨i, v, hi, hq1, hV, hF, hS⟩
       refine wK fun Kq46 hKq46 => ?_
       refine wK fun Kq47 hKq47 => ?_
       refine wR ?_
       refine wg hF rfl rfl rfl (gv_move rfl (hF.t rfl)) fun a hF => ?_
       refine wg hF rfl rfl rfl (gv_move rfl (hF.t rfl)) fun a hF => ?_
       refine wg hF rfl rfl rfl (gv_lss rfl (hF.t rfl) (hF.t rfl)) fun a hF => ?_
       refine wN ?_
       refine tN (hKq47 _ _ ?_)
       refine cond_dec (hF.t rfl) (fun h165 => ?_) (fun h165 => ?_)
       ·
        refine wp_skip ?_
        refine tN (hKq46 _ _ ?_)
        refine wK fun Kq48 hKq48 => ?_
        refine wp_block ?_
        refine wK fun Kq49 hKq49 => ?_
        refine wR ?_
        refine wg hF rfl rfl rfl (gv_indexArr (q := 4) rfl u148 z76 (hF.t rfl) rfl (by omega)) fun a hF => ?_
        refine wg hF rfl rfl rfl (gv_load rfl u76 rfl (hF.t rfl) (cell_ix (j := 4) (hS.cell (k := 0) rfl (rfl)) (by omega))) fun a hF => ?_
        refine wg hF rfl rfl rfl (gv_indexArr (q := 5) rfl u148 z76 (hF.t rfl) rfl (by omega)) fun a hF => ?_
        refine wg hF rfl rfl rfl (gv_load rfl u76 rfl (hF.t rfl) (cell_ix (j := 5) (hS.cell (k := 0) rfl (rfl)) (by omega))) fun a hF => ?_
        refine wg hF rfl rfl rfl (gv_d_and rfl (hF.t rfl) (hF.t rfl)) fun a hF => ?_
        refine wg hF rfl rfl rfl (gv_move rfl (hF.t rfl)) fun a hF => ?_
        refine wg hF rfl rfl rfl (gv_indexArr (q := 4) rfl u148 z76 (hF.t rfl) rfl (by omega)) fun a hF => ?_
        refine wg hF rfl rfl rfl (gv_load rfl u76 rfl (hF.t rfl) (cell_ix (j := 4) (hS.cell (k := 0) rfl (rfl)) (by omega))) fun a hF => ?_
        refine wg hF rfl rfl rfl (gv_d_xor rfl (hF.t rfl) (hF.t rfl)) fun a hF => ?_
        refine wg hF rfl rfl rfl (gv_indexArr (q := 6) rfl u148 z76 (hF.t rfl) rfl (by omega)) fun a hF => ?_
        refine wg hF rfl rfl rfl (gv_load rfl u76 rfl (hF.t rfl) (cell_ix (j := 6) (hS.cell (k := 0) rfl (rfl)) (by omega))) fun a hF => ?_
        refine wg hF rfl rfl rfl (gv_d_and rfl (hF.t rfl) (hF.t rfl)) fun a hF => ?_
        refine wg hF rfl rfl rfl (gv_d_or rfl (hF.t rfl) (hF.t rfl)) fun a hF => ?_
        rw [ch64] at hF
        refine wg hF rfl rfl rfl (gv_assign rfl (hF.t rfl)) fun a hF => ?_
        refine wN ?_
        refine tN (hKq49 _ _ ?_)
        refine wK fun Kq50 hKq50 => ?_
        refine Fw.wp_region_draw (by kernel_rfl) fun w hx => ?_
        replace hS := hS.ext hx
        clear hx
        refine run_head0 (n := 25) _ hF (by kernel_rfl) rfl ?_
        refine dg hF rfl rfl rfl rfl (fun w hx => gv_indexArr (q := 7) rfl u148 z76 (hF.t rfl) rfl (by omega)) fun a hF => ?_
        refine dg hF rfl rfl rfl rfl (fun w hx => gv_load rfl u76 rfl (hF.t rfl) (cell_ix (j := 7) ((hS.ext hx).cell (k := 0) rfl (rfl)) (by omega))) fun a hF => ?_
        refine dg hF rfl rfl rfl rfl (fun w hx => gv_indexArr (q := 4) rfl u148 z76 (hF.t rfl) rfl (by omega)) fun a hF => ?_
        refine dg hF rfl rfl rfl rfl (fun w hx => gv_load rfl u76 rfl (hF.t rfl) (cell_ix (j := 4) ((hS.ext hx).cell (k := 0) rfl (rfl)) (by omega))) fun a hF => ?_
        refine dg hF rfl rfl rfl rfl (fun w hx => gv_indexArr (q := 2) rfl u147 z64 (hF.t rfl) rfl (by omega)) fun a hF => ?_
        refine dg hF rfl rfl rfl rfl (fun w hx => gv_loadPartAt (j := 6) (vs := [vI 6, vI 11, vI 25]) rfl u64 rfl (z64.trans (congrArg some (rfl))) (hF.t rfl) (by omega) (hS.ext hx) (k := 5) rfl (rfl)) fun a hF => ?_
        refine dg hF rfl rfl rfl rfl (fun w hx => gv_move rfl (hF.t rfl)) fun a hF => ?_
        refine dw_call hF rfl (wanted_none rfl) rfl rfl Tryd.ok86 rfl (Evs.cons (hF.t rfl) (Evs.cons (hF.t rfl) (Evs.cons (ev_const _ _) (Evs.cons (hF.t rfl) Evs.nil)))) (fun w hx => rmix_f (n1 := 6) (n2 := 11) (n3 := 25) (by decide) (by decide) (by decide)) fun a hF => ?_
        refine dg hF rfl rfl rfl rfl (fun w hx => gv_d_add rfl (hF.t rfl) (hF.t rfl)) fun a hF => ?_
        refine dg hF rfl rfl rfl rfl (fun w hx => gv_move rfl (hF.t rfl)) fun a hF => ?_
        refine dg hF rfl rfl rfl rfl (fun w hx => gv_d_add rfl (hF.t rfl) (hF.t rfl)) fun a hF => ?_
        refine dg hF rfl rfl rfl rfl (fun w hx => gv_move rfl (hF.t rfl)) fun a hF => ?_
        refine dg hF rfl rfl rfl rfl (fun w hx => gv_indexArr rfl u150 z76 (hF.t rfl) (hF.t rfl) (by omega)) fun a hF => ?_
        refine dg hF rfl rfl rfl rfl (fun w hx => gv_load rfl u76 rfl (hF.t rfl) (cell_ix ((hS.ext hx).cellD (k := 2) rfl (i) (by rw [st_len]; omega)) (by omega))) fun a hF => ?_
        refine dg hF rfl rfl rfl rfl (fun w hx => gv_move rfl (hF.t rfl)) fun a hF => ?_
        refine dg hF rfl rfl rfl rfl (fun w hx => gv_nsub (m := 64) rfl rfl (hF.t rfl) (by omega) (by omega)) fun a hF => ?_
        refine dg hF rfl rfl rfl rfl (fun w hx => gv_d_shr rfl (hF.t rfl) (hF.t rfl) (by omega)) fun a hF => ?_
        rw [show (64 - 32 : Nat) = 32 from rfl, hi64] at hF
        refine dg hF rfl rfl rfl rfl (fun w hx => gv_d_add rfl (hF.t rfl) (hF.t rfl)) fun a hF => ?_
        refine dg hF rfl rfl rfl rfl (fun w hx => gv_move rfl (hF.t rfl)) fun a hF => ?_
        refine dg hF rfl rfl rfl rfl (fun w hx => gv_indexArr rfl u150 z76 (hF.t rfl) (hF.t rfl) (by omega)) fun a hF => ?_
        refine dg hF rfl rfl rfl rfl (fun w hx => gv_load rfl u76 rfl (hF.t rfl) (cell_ix (j := i) ((hS.ext hx).cell (k := 1) rfl (x80_at (q := i) rfl (by omega))) (by omega))) fun a hF => ?_
        refine dg hF rfl rfl rfl rfl (fun w hx => gv_d_add rfl (hF.t rfl) (hF.t rfl)) fun a hF => ?_
        refine dg hF rfl rfl rfl rfl (fun w hx => gv_move rfl (hF.t rfl)) fun a hF => ?_
        refine dg hF rfl rfl rfl rfl (fun w hx => gv_d_and rfl (hF.t rfl) (hF.t rfl)) fun a hF => ?_
        rw [t64] at hF
        refine dg hF rfl rfl rfl rfl (fun w hx => gv_assign rfl (hF.t rfl)) fun a hF => ?_
        refine dw_nil fun a w hA hx => ?_
        replace hF := hA _ hF
        replace hS := hS.ext hx
        clear hA hx
        refine run_done (by decide) ?_
        refine tN (hKq50 _ _ ?_)
        refine wK fun Kq51 hKq51 => ?_
        refine Fw.wp_region_draw (by kernel_rfl) fun w hx => ?_
        replace hS := hS.ext hx
        clear hx
        refine run_head0 (n := 25) _ hF (by kernel_rfl) rfl ?_
        refine dg hF rfl rfl rfl rfl (fun w hx => gv_indexArr (q := 0) rfl u148 z76 (hF.t rfl) rfl (by omega)) fun a hF => ?_
        refine dg hF rfl rfl rfl rfl (fun w hx => gv_load rfl u76 rfl (hF.t rfl) (cell_ix (j := 0) ((hS.ext hx).cell (k := 0) rfl (rfl)) (by omega))) fun a hF => ?_
        refine dg hF rfl rfl rfl rfl (fun w hx => gv_indexArr (q := 3) rfl u147 z64 (hF.t rfl) rfl (by omega)) fun a hF => ?_
        refine dg hF rfl rfl rfl rfl (fun w hx => gv_loadPartAt (j := 9) (vs := [vI 2, vI 13, vI 22]) rfl u64 rfl (z64.trans (congrArg some (rfl))) (hF.t rfl) (by omega) (hS.ext hx) (k := 5) rfl (rfl)) fun a hF => ?_
        refine dg hF rfl rfl rfl rfl (fun w hx => gv_move rfl (hF.t rfl)) fun a hF => ?_
        refine dw_call hF rfl (wanted_none rfl) rfl rfl Tryd.ok86 rfl (Evs.cons (hF.t rfl) (Evs.cons (hF.t rfl) (Evs.cons (ev_const _ _) (Evs.cons (hF.t rfl) Evs.nil)))) (fun w hx => rmix_f (n1 := 2) (n2 := 13) (n3 := 22) (by decide) (by decide) (by decide)) fun a hF => ?_
        refine dg hF rfl rfl rfl rfl (fun w hx => gv_indexArr (q := 0) rfl u148 z76 (hF.t rfl) rfl (by omega)) fun a hF => ?_
        refine dg hF rfl rfl rfl rfl (fun w hx => gv_load rfl u76 rfl (hF.t rfl) (cell_ix (j := 0) ((hS.ext hx).cell (k := 0) rfl (rfl)) (by omega))) fun a hF => ?_
        refine dg hF rfl rfl rfl rfl (fun w hx => gv_indexArr (q := 1) rfl u148 z76 (hF.t rfl) rfl (by omega)) fun a hF => ?_
        refine dg hF rfl rfl rfl rfl (fun w hx => gv_load rfl u76 rfl (hF.t rfl) (cell_ix (j := 1) ((hS.ext hx).cell (k := 0) rfl (rfl)) (by omega))) fun a hF => ?_
        refine dg hF rfl rfl rfl rfl (fun w hx => gv_d_and rfl (hF.t rfl) (hF.t rfl)) fun a hF => ?_
        refine dg hF rfl rfl rfl rfl (fun w hx => gv_indexArr (q := 1) rfl u148 z76 (hF.t rfl) rfl (by omega)) fun a hF => ?_
        refine dg hF rfl rfl rfl rfl (fun w hx => gv_load rfl u76 rfl (hF.t rfl) (cell_ix (j := 1) ((hS.ext hx).cell (k := 0) rfl (rfl)) (by omega))) fun a hF => ?_
        refine dg hF rfl rfl rfl rfl (fun w hx => gv_indexArr (q := 2) rfl u148 z76 (hF.t rfl) rfl (by omega)) fun a hF => ?_
        refine dg hF rfl rfl rfl rfl (fun w hx => gv_load rfl u76 rfl (hF.t rfl) (cell_ix (j := 2) ((hS.ext hx).cell (k := 0) rfl (rfl)) (by omega))) fun a hF => ?_
        refine dg hF rfl rfl rfl rfl (fun w hx => gv_d_and rfl (hF.t rfl) (hF.t rfl)) fun a hF => ?_
        refine dg hF rfl rfl rfl rfl (fun w hx => gv_d_or rfl (hF.t rfl) (hF.t rfl)) fun a hF => ?_
        refine dg hF rfl rfl rfl rfl (fun w hx => gv_indexArr (q := 0) rfl u148 z76 (hF.t rfl) rfl (by omega)) fun a hF => ?_
        refine dg hF rfl rfl rfl rfl (fun w hx => gv_load rfl u76 rfl (hF.t rfl) (cell_ix (j := 0) ((hS.ext hx).cell (k := 0) rfl (rfl)) (by omega))) fun a hF => ?_
        refine dg hF rfl rfl rfl rfl (fun w hx => gv_indexArr (q := 2) rfl u148 z76 (hF.t rfl) rfl (by omega)) fun a hF => ?_
        refine dg hF rfl rfl rfl rfl (fun w hx => gv_load rfl u76 rfl (hF.t rfl) (cell_ix (j := 2) ((hS.ext hx).cell (k := 0) rfl (rfl)) (by omega))) fun a hF => ?_
        refine dg hF rfl rfl rfl rfl (fun w hx => gv_d_and rfl (hF.t rfl) (hF.t rfl)) fun a hF => ?_
        refine dg hF rfl rfl rfl rfl (fun w hx => gv_d_or rfl (hF.t rfl) (hF.t rfl)) fun a hF => ?_
        rw [mj64] at hF
        refine dg hF rfl rfl rfl rfl (fun w hx => gv_d_add rfl (hF.t rfl) (hF.t rfl)) fun a hF => ?_
        refine dg hF rfl rfl rfl rfl (fun w hx => gv_assign rfl (hF.t rfl)) fun a hF => ?_
        refine dw_nil fun a w hA hx => ?_
        replace hF := hA _ hF
        replace hS := hS.ext hx
        clear hA hx
        refine run_done (by decide) ?_
        refine tN (hKq51 _ _ ?_)
        refine wR ?_
        refine wg hF rfl rfl rfl (gv_move rfl (hF.t rfl)) fun a hF => ?_
        refine wg hF rfl rfl rfl (gv_move rfl (hF.t rfl)) fun a hF => ?_
        refine wg hF rfl rfl rfl (gv_d_add rfl (hF.t rfl) (hF.t rfl)) fun a hF => ?_
        refine wg hF rfl rfl rfl (gv_move rfl (hF.t rfl)) fun a hF => ?_
        refine wg hF rfl rfl rfl (gv_d_and rfl (hF.t rfl) (hF.t rfl)) fun a hF => ?_
        rw [tu64] at hF
        refine wg hF rfl rfl rfl (gv_indexArr (q := 0) rfl u148 z76 (hF.t rfl) rfl (by omega)) fun a hF => ?_
        refine wg hF rfl rfl rfl (gv_load rfl u76 rfl (hF.t rfl) (cell_ix (j := 0) (hS.cell (k := 0) rfl (rfl)) (by omega))) fun a hF => ?_
        refine wg hF rfl rfl rfl (gv_indexArr (q := 1) rfl u148 z76 (hF.t rfl) rfl (by omega)) fun a hF => ?_
        refine wg hF rfl rfl rfl (gv_load rfl u76 rfl (hF.t rfl) (cell_ix (j := 1) (hS.cell (k := 0) rfl (rfl)) (by omega))) fun a hF => ?_
        refine wg hF rfl rfl rfl (gv_indexArr (q := 2) rfl u148 z76 (hF.t rfl) rfl (by omega)) fun a hF => ?_
        refine wg hF rfl rfl rfl (gv_load rfl u76 rfl (hF.t rfl) (cell_ix (j := 2) (hS.cell (k := 0) rfl (rfl)) (by omega))) fun a hF => ?_
        refine wg hF rfl rfl rfl (gv_indexArr (q := 3) rfl u148 z76 (hF.t rfl) rfl (by omega)) fun a hF => ?_
        refine wg hF rfl rfl rfl (gv_load rfl u76 rfl (hF.t rfl) (cell_ix (j := 3) (hS.cell (k := 0) rfl (rfl)) (by omega))) fun a hF => ?_
        refine wg hF rfl rfl rfl (gv_move rfl (hF.t rfl)) fun a hF => ?_
        refine wg hF rfl rfl rfl (gv_d_add rfl (hF.t rfl) (hF.t rfl)) fun a hF => ?_
        refine wg hF rfl rfl rfl (gv_move rfl (hF.t rfl)) fun a hF => ?_
        refine wg hF rfl rfl rfl (gv_d_and rfl (hF.t rfl) (hF.t rfl)) fun a hF => ?_
        rw [et64] at hF
        refine wg hF rfl rfl rfl (gv_indexArr (q := 4) rfl u148 z76 (hF.t rfl) rfl (by omega)) fun a hF => ?_
        refine wg hF rfl rfl rfl (gv_load rfl u76 rfl (hF.t rfl) (cell_ix (j := 4) (hS.cell (k := 0) rfl (rfl)) (by omega))) fun a hF => ?_
        refine wg hF rfl rfl rfl (gv_indexArr (q := 5) rfl u148 z76 (hF.t rfl) rfl (by omega)) fun a hF => ?_
        refine wg hF rfl rfl rfl (gv_load rfl u76 rfl (hF.t rfl) (cell_ix (j := 5) (hS.cell (k := 0) rfl (rfl)) (by omega))) fun a hF => ?_
        refine wg hF rfl rfl rfl (gv_indexArr (q := 6) rfl u148 z76 (hF.t rfl) rfl (by omega)) fun a hF => ?_
        refine wg hF rfl rfl rfl (gv_load rfl u76 rfl (hF.t rfl) (cell_ix (j := 6) (hS.cell (k := 0) rfl (rfl)) (by omega))) fun a hF => ?_
        refine wg hF rfl rfl rfl (gv_build (v := .agg ((toL (rnd v (hi32 (stepsL.getD i 0)) (W.getD i 0))).map v64).toArray) rfl (EvP.map (EvP.cons (hF.t rfl) (EvP.cons (hF.t rfl) (EvP.cons (hF.t rfl) (EvP.cons (hF.t rfl) (EvP.cons (hF.t rfl) (EvP.cons (hF.t rfl) (EvP.cons (hF.t rfl) (EvP.cons (hF.t rfl) EvP.nil))))))))) (run_buildArr (cs := ((toL (rnd v (hi32 (stepsL.getD i 0)) (W.getD i 0))).map v64).toArray) u148 z76 Tryd.zv148 rfl (fill8d (rnd v (hi32 (stepsL.getD i 0)) (W.getD i 0))))) fun a hF => ?_
        refine wpList_stp (stp_storeAll hF (wanted_none rfl) rfl rfl (z148.trans (congrArg some (rfl))) (hF.t rfl) (hF.t rfl) (one64v _) hS (k := 0) rfl (rfl) fun w hS => ?_)
        refine wN ?_
        refine block_normal ?_
        refine tN (hKq48 _ _ ?_)
        refine wR ?_
        refine wg hF rfl rfl rfl (gv_move rfl (hF.t rfl)) fun a hF => ?_
        refine wg hF rfl rfl rfl (gv_nadd (n := 1) rfl (hF.t rfl) rfl (by omega)) fun a hF => ?_
        refine wg hF rfl rfl rfl (gv_assign rfl (hF.t rfl)) fun a hF => ?_
        refine wN ?_
        refine then_normal ?_
        exact ⟨q - 1, by omega, i + 1, rnd v (hi32 (stepsL.getD i 0)) (W.getD i 0), by omega, by omega, by rw [hV]; rfl, hF.sub ⟨rfl, rfl, rfl, rfl, rfl, rfl, rfl, rfl, rfl, rfl, rfl, rfl, trivial⟩, hS⟩
       ·
        refine wp_exit ?_
        refine then_exit ?_
        refine then_exit ?_
        refine block_exit ?_
        refine tN (hKq44 _ _ ?_)
        refine wK fun Kq52 hKq52 => ?_
        refine wR ?_
        refine wg hF rfl rfl rfl (gv_assign rfl (ev_const _ _)) fun a hF => ?_
        refine wN ?_
        refine tN (hKq52 _ _ ?_)
        refine wp_block ?_
        obtain rfl : i = 64 := by omega
        refine wp_loop_n (fun q a w => ∃ i, i ≤ 8 ∧ q = 8 - i ∧ Fr 292 a [(1, vI 32), (5, vI 64), (6, vD 4294967295), (7, .pointer (some ⟨tb, 0, none⟩)), (8, vI 64), (9, .slice (some ⟨o, 0, none⟩) PL.length (PL.length + op.length)), (12, .pointer (some ⟨hh, 0, none⟩)), (13, .pointer (some ⟨kk, 0, none⟩)), (15, vI (64 * j)), (16, .pointer (some ⟨xx, 0, none⟩)), (19, .pointer (some ⟨vv, 0, none⟩)), (24, vI i)] ∧ St w0 w [⟨true, some vv, blk 148 ((toL v).map v64)⟩, ⟨true, some xx, blk 150 (X80 (W))⟩, ⟨true, some kk, blkD 150 stepsL⟩, ⟨true, some hh, blk 148 ((hadd Hh (toL v) i).map v64)⟩, ⟨true, some o, blk 5 (PL.map vB ++ op)⟩, ⟨true, some tb, blk 147 (T12.map vI)⟩]) 8 ⟨0, by omega, by omega, hF.sub ⟨rfl, rfl, rfl, rfl, rfl, rfl, rfl, rfl, rfl, rfl, rfl, rfl, trivial⟩, hS⟩ ?_
        rintro q a w ⟨i, hi, hq1, hF, hS⟩
        refine wK fun Kq53 hKq53 => ?_
        refine wK fun Kq54 hKq54 => ?_
        refine wR ?_
        refine wg hF rfl rfl rfl (gv_move rfl (hF.t rfl)) fun a hF => ?_
        refine wg hF rfl rfl rfl (gv_lss rfl (hF.t rfl) (ev_const _ _)) fun a hF => ?_
        refine wN ?_
        refine tN (hKq54 _ _ ?_)
        refine cond_dec (hF.t rfl) (fun h254 => ?_) (fun h254 => ?_)
        ·
         refine wp_skip ?_
         refine tN (hKq53 _ _ ?_)
         refine wK fun Kq55 hKq55 => ?_
         refine wp_block ?_
         refine Fw.wp_region_draw (by kernel_rfl) fun w hx => ?_
         replace hS := hS.ext hx
         clear hx
         refine run_head0 (n := 11) _ hF (by kernel_rfl) rfl ?_
         refine dg hF rfl rfl rfl rfl (fun w hx => gv_move rfl (hF.t rfl)) fun a hF => ?_
         refine dg hF rfl rfl rfl rfl (fun w hx => gv_move rfl (hF.t rfl)) fun a hF => ?_
         refine dg hF rfl rfl rfl rfl (fun w hx => gv_indexArr rfl u148 z76 (hF.t rfl) (hF.t rfl) (by omega)) fun a hF => ?_
         refine dg hF rfl rfl rfl rfl (fun w hx => gv_load rfl u76 rfl (hF.t rfl) (cell_ix (j := i) ((hS.ext hx).cell (k := 3) rfl (at64 (by rw [hadd_len, hHl]; omega))) (by omega))) fun a hF => ?_
         refine dg hF rfl rfl rfl rfl (fun w hx => gv_move rfl (hF.t rfl)) fun a hF => ?_
         refine dg hF rfl rfl rfl rfl (fun w hx => gv_indexArr rfl u148 z76 (hF.t rfl) (hF.t rfl) (by omega)) fun a hF => ?_
         refine dg hF rfl rfl rfl rfl (fun w hx => gv_load rfl u76 rfl (hF.t rfl) (cell_ix (j := i) ((hS.ext hx).cell (k := 0) rfl (at64 (by rw [toL_len]; omega))) (by omega))) fun a hF => ?_
         refine dg hF rfl rfl rfl rfl (fun w hx => gv_d_add rfl (hF.t rfl) (hF.t rfl)) fun a hF => ?_
         refine dg hF rfl rfl rfl rfl (fun w hx => gv_move rfl (hF.t rfl)) fun a hF => ?_
         refine dg hF rfl rfl rfl rfl (fun w hx => gv_d_and rfl (hF.t rfl) (hF.t rfl)) fun a hF => ?_
         rw [et64] at hF
         refine dg hF rfl rfl rfl rfl (fun w hx => gv_indexArr rfl u148 z76 (hF.t rfl) (hF.t rfl) (by omega)) fun a hF => ?_
         refine dw_nil fun a w hA hx => ?_
         replace hF := hA _ hF
         replace hS := hS.ext hx
         clear hA hx
         refine run_stp (by kernel_rfl) rfl (stp_storeAt (i) hF (wanted_none rfl) rfl rfl z76 (hF.t rfl) (by omega) (hF.t rfl) rfl hS (k := 3) rfl (by rw [List.length_map, hadd_len, hHl]; omega) fun w hS => ?_)
         rw [set64] at hS
         refine run_done (by decide) ?_
         refine block_normal ?_
         refine tN (hKq55 _ _ ?_)
         refine wR ?_
         refine wg hF rfl rfl rfl (gv_move rfl (hF.t rfl)) fun a hF => ?_
         refine wg hF rfl rfl rfl (gv_nadd (n := 1) rfl (hF.t rfl) rfl (by omega)) fun a hF => ?_
         refine wg hF rfl rfl rfl (gv_assign rfl (hF.t rfl)) fun a hF => ?_
         refine wN ?_
         refine then_normal ?_
         exact ⟨q - 1, by omega, i + 1, by omega, by omega, hF.sub ⟨rfl, rfl, rfl, rfl, rfl, rfl, rfl, rfl, rfl, rfl, rfl, rfl, trivial⟩, hS⟩
        ·
         refine wp_exit ?_
         refine then_exit ?_
         refine then_exit ?_
         refine block_exit ?_
         refine block_normal ?_
         refine tN (hKq31 _ _ ?_)
         refine wR ?_
         refine wg hF rfl rfl rfl (gv_move rfl (hF.t rfl)) fun a hF => ?_
         refine wg hF rfl rfl rfl (gv_move rfl (hF.t rfl)) fun a hF => ?_
         refine wg hF rfl rfl rfl (gv_nadd rfl (hF.t rfl) (hF.t rfl) (by omega)) fun a hF => ?_
         refine wg hF rfl rfl rfl (gv_assign rfl (hF.t rfl)) fun a hF => ?_
         refine wN ?_
         refine then_normal ?_
         obtain rfl : i = 8 := by omega
         replace hS := (hS.drop rfl).drop rfl
         exact ⟨n - 1, by omega, j + 1, by omega, by omega, hF.sub ⟨rfl, rfl, rfl, rfl, rfl, rfl, rfl, rfl, rfl, trivial⟩, by rw [hsA, blkS, ← hHh, ← hW, ← hV]; exact hS⟩
    ·
     refine wp_exit ?_
     refine then_exit ?_
     refine then_exit ?_
     refine block_exit ?_
     refine tN (hKq27 _ _ ?_)
     refine wK fun Kq56 hKq56 => ?_
     refine wR ?_
     refine wg hF rfl rfl rfl (gv_assign rfl (ev_const _ _)) fun a hF => ?_
     refine wN ?_
     refine tN (hKq56 _ _ ?_)
     refine wK fun Kq57 hKq57 => ?_
     refine wK fun Kq58 hKq58 => ?_
     refine wR ?_
     refine wg hF rfl rfl rfl (gv_assign rfl (ev_const _ _)) fun a hF => ?_
     refine wN ?_
     refine tN (hKq58 _ _ ?_)
     refine wp_block ?_
     obtain rfl : j = M := by omega
     obtain ⟨Hf, hHf⟩ : ∃ Hf, Hf = hsA PL j := ⟨_, rfl⟩
     have hFl : Hf.length = 8 := by rw [hHf]; exact hHl
     rw [← hHf] at hS
     replace hS := hS.addNil (blk 5 (([] : List UInt8).map vB ++ []))
     refine wp_loop_n (fun q a w => ∃ (i : Nat) (u : Option Nat) (up : List Value), i ≤ 32 ∧ q = 32 - i ∧ (u = none → (outA Hf i) = [] ∧ up = []) ∧ ((outA Hf i)).length + up.length ≤ 9223372036854775807 ∧ Fr 292 a [(1, vI 32), (12, .pointer (some ⟨hh, 0, none⟩)), (25, ownV u (outA Hf i).length ((outA Hf i).length + up.length)), (26, vI i)] ∧ St w0 w [⟨true, u, blk 5 ((outA Hf i).map vB ++ up)⟩, ⟨true, some kk, blkD 150 stepsL⟩, ⟨true, some hh, blk 148 ((Hf).map v64)⟩, ⟨true, some o, blk 5 (PL.map vB ++ op)⟩, ⟨true, some tb, blk 147 (T12.map vI)⟩]) 32 ⟨0, none, [], by omega, by omega, fun _ => ⟨rfl, rfl⟩, by simp [outA], hF.sub ⟨rfl, rfl, rfl, rfl, trivial⟩, hS⟩ ?_
     rintro q a w ⟨i, u, up, hi, hq1, uo, uc, hF, hS⟩
     refine wK fun Kq59 hKq59 => ?_
     refine wK fun Kq60 hKq60 => ?_
     refine wR ?_
     refine wg hF rfl rfl rfl (gv_move rfl (hF.t rfl)) fun a hF => ?_
     refine wg hF rfl rfl rfl (gv_move rfl (hF.t rfl)) fun a hF => ?_
     refine wg hF rfl rfl rfl (gv_lss rfl (hF.t rfl) (hF.t rfl)) fun a hF => ?_
     refine wN ?_
     refine tN (hKq60 _ _ ?_)
     refine cond_dec (hF.t rfl) (fun h270 => ?_) (fun h270 => ?_)
     ·
      refine wp_skip ?_
      refine tN (hKq59 _ _ ?_)
      refine wK fun Kq61 hKq61 => ?_
      refine wp_block ?_
      refine Fw.wp_region_draw (by kernel_rfl) fun w hx => ?_
      replace hS := hS.ext hx
      clear hx
      refine run_head1 (n := 17) _ 16 289 _ (FlS w 5 1 [vB ((Hf.getD (i / 4) 0 >>> UInt32.ofNat (24 - 8 * (i % 4))).toUInt8)]) hF (by kernel_rfl) rfl rfl rfl (FlS.lasts w 5 1 [vB ((Hf.getD (i / 4) 0 >>> UInt32.ofNat (24 - 8 * (i % 4))).toUInt8)]) ?_ (by omega) (by omega)
      refine dg hF rfl rfl rfl rfl (fun w hx => gv_move rfl (hF.t rfl)) fun a hF => ?_
      refine dg hF rfl rfl rfl rfl (fun w hx => gv_move rfl (hF.t rfl)) fun a hF => ?_
      refine dg hF rfl rfl rfl rfl (fun w hx => gv_nmul (m := 8) rfl rfl (hF.t rfl) (by omega)) fun a hF => ?_
      refine dg hF rfl rfl rfl rfl (fun w hx => gv_move rfl (hF.t rfl)) fun a hF => ?_
      refine dg hF rfl rfl rfl rfl (fun w hx => gv_nquo rfl (hF.t rfl) (hF.t rfl) (by omega) (by omega)) fun a hF => ?_
      refine dg hF rfl rfl rfl rfl (fun w hx => gv_indexArr rfl u148 z76 (hF.t rfl) (hF.t rfl) (by omega)) fun a hF => ?_
      refine dg hF rfl rfl rfl rfl (fun w hx => gv_load rfl u76 rfl (hF.t rfl) (cell_ix (j := 8 * i / 32) ((hS.ext hx).cell (k := 2) rfl (at64q (q := i / 4) (by omega) (by rw [hFl]; omega))) (by omega))) fun a hF => ?_
      refine dg hF rfl rfl rfl rfl (fun w hx => gv_move rfl (hF.t rfl)) fun a hF => ?_
      refine dg hF rfl rfl rfl rfl (fun w hx => gv_nsub (n := 8) rfl (hF.t rfl) rfl (by omega) (by omega)) fun a hF => ?_
      refine dg hF rfl rfl rfl rfl (fun w hx => gv_move rfl (hF.t rfl)) fun a hF => ?_
      refine dg hF rfl rfl rfl rfl (fun w hx => gv_nmul (m := 8) rfl rfl (hF.t rfl) (by omega)) fun a hF => ?_
      refine dg hF rfl rfl rfl rfl (fun w hx => gv_move rfl (hF.t rfl)) fun a hF => ?_
      refine dg hF rfl rfl rfl rfl (fun w hx => gv_nrem rfl (hF.t rfl) (hF.t rfl) (by omega)) fun a hF => ?_
      refine dg hF rfl rfl rfl rfl (fun w hx => gv_nsub rfl (hF.t rfl) (hF.t rfl) (by omega) (by omega)) fun a hF => ?_
      refine dg hF rfl rfl rfl rfl (fun w hx => gv_d_shr rfl (hF.t rfl) (hF.t rfl) (by omega)) fun a hF => ?_
      refine dg hF rfl rfl rfl rfl (fun w hx => gv_conv_d_b rfl u76 u5 (hF.t rfl)) fun a hF => ?_
      rw [show 32 - 8 - 8 * i % 32 = 24 - 8 * (i % 4) by omega, byte64 _ _ (by omega)] at hF
      refine dw_fl rfl ?_
      refine dw_nil ⟨fo_build1 rfl u22 Tryd.ty5 (hF.t rfl), fun a w v hR hA hx => ?_⟩
      obtain ⟨zb, rfl, hR1, hR2⟩ := hR
      replace hF := hA _ hF
      replace hS := hS.float hx hR1 hR2
      clear hA hx hR1 hR2
      refine run_stp (by kernel_rfl) rfl (stp_app1 (k := 0) hF (wanted_none rfl) rfl rfl rfl u22 Tryd.ty5 rfl (hF.t rfl) (hF.t rfl) hS rfl uo uc (by rw [outA_len]; omega) fun u up a w hF uo uc hS => ?_)
      refine run_stp (by kernel_rfl) rfl (stp_gv hF (wanted_none rfl) rfl rfl (gv_assign rfl (hF.t rfl)) fun a hF => ?_)
      refine run_done (by decide) ?_
      refine block_normal ?_
      refine tN (hKq61 _ _ ?_)
      refine wR ?_
      refine wg hF rfl rfl rfl (gv_move rfl (hF.t rfl)) fun a hF => ?_
      refine wg hF rfl rfl rfl (gv_nadd (n := 1) rfl (hF.t rfl) rfl (by omega)) fun a hF => ?_
      refine wg hF rfl rfl rfl (gv_assign rfl (hF.t rfl)) fun a hF => ?_
      refine wN ?_
      refine then_normal ?_
      exact ⟨q - 1, by omega, i + 1, u, up, by omega, by omega, uo, uc, hF.sub ⟨rfl, rfl, rfl, rfl, trivial⟩, hS⟩
     ·
      refine wp_exit ?_
      refine then_exit ?_
      refine then_exit ?_
      refine block_exit ?_
      refine tN (hKq57 _ _ ?_)
      refine wK fun Kq62 hKq62 => ?_
      obtain rfl : i = 32 := by omega
      obtain ⟨u, rfl⟩ := own_some uo (by rw [outA_len]; omega)
      rw [outA_len] at hF uc
      rw [outA_S, show outS Hf 32 = sum256 bl from by rw [hHf, sum256, ← hPL, hM, Nat.mul_div_cancel_left _ (by decide)]] at hS
      refine wR ?_
      refine wg hF rfl rfl rfl (gv_move rfl (hF.t rfl)) fun a hF => ?_
      refine wg hF rfl rfl rfl (gv_assign rfl (hF.t rfl)) fun a hF => ?_
      refine wN ?_
      refine tN (hKq62 _ _ ?_)
      refine wp_ret ?_
      refine ret1 (fn := Tryd.f64) (t := 4) hF rfl rfl ?_
      exact ⟨u, up, rfl, uc, (((hS.drop2 rfl).drop2 rfl).drop2 rfl).drop2 rfl⟩
end Go.Proofs.YtfhalnobaeogkaaDoor
set_option linter.unusedVariables false
set_option linter.unusedSimpArgs false
namespace Go.Proofs.YtfhalnobaeogkaaDoor
open Go Go.RowKit Go.Fw
theorem Tryd.ok64 : CallOk Tryd.prog 64 := ⟨_, Tryd.func64, by kernel_rfl, by kernel_rfl⟩
theorem stTake {w0 w : World} {H : List Ent} (h : St w0 w H) (k : Nat) (hn : ∀ e ∈ H.drop k, e.nw = true) : St w0 w (H.take k) := by
 have hm : ∀ e ∈ H.take k, e ∈ H := fun e he => List.mem_of_mem_take he
 refine ⟨h.os, h.tape, h.output, h.size, fun b hb hne => h.old b hb fun e he hf => ?_, fun e he => h.has e (hm e he), fun e he => h.new e (hm e he), fun i j ei ej b hi hj h1 h2 => ?_⟩
 ·
  rcases List.mem_append.1 ((List.take_append_drop k H).symm ▸ he) with h1 | h1
  ·
   exact hne e h1 hf
  ·
   rw [hn e h1] at hf; cases hf
 ·
  rw [List.getElem?_take] at hi hj
  split at hi
  ·
   split at hj
   ·
    exact h.once i j ei ej b hi hj h1 h2
   ·
    cases hj
  ·
   cases hi
def xoA (c : UInt8) (kl : List UInt8) (i : Nat) : List UInt8 := (List.range i).map fun j => kl.getD j 0 ^^^ c
theorem xoA_succ (c : UInt8) (kl : List UInt8) (i : Nat) : xoA c kl i ++ [kl.getD i 0 ^^^ c] = xoA c kl (i + 1) := by simp [xoA, List.range_succ]
theorem xoA_len (c : UInt8) (kl : List UInt8) (i : Nat) : (xoA c kl i).length = i := by simp [xoA]
theorem xo_at (c : UInt8) (l : List UInt8) : ∀ k, k ≤ l.length → ∀ i, (xo c l k)[i]? = if i < k then some (l.getD i 0 ^^^ c) else l[i]?
 | 0, _, i => by rw [if_neg (Nat.not_lt_zero i)]; rfl
 | k + 1, h, i => by
  have ih := xo_at c l k (by omega)
  have hl := xo_len c l k
  rw [xo, List.getElem?_set, hl]
  by_cases hik : k = i
  ·
   subst hik
   rw [if_pos rfl, if_pos (by omega), if_pos (by omega), List.getD_eq_getElem?_getD, ih, if_neg (by omega), ← List.getD_eq_getElem?_getD]
  ·
   rw [if_neg hik, ih]
   by_cases hik2 : i < k
   ·
    rw [if_pos hik2, if_pos (by omega)]
   ·
    rw [if_neg hik2, if_neg (by omega)]
theorem xo_all (c : UInt8) {kl : List UInt8} (h : kl.length ≤ 64) : xo c (padK kl) 64 = xoA c kl 64 := by
 have hl := padK_len h
 apply List.ext_getElem?
 intro i
 rw [xo_at c _ 64 (by omega), xoA, List.getElem?_map]
 by_cases hi : i < 64
 ·
  rw [if_pos hi, List.getElem?_eq_getElem (by simpa using hi)]
  simp only [List.getElem_range, Option.map_some]
  congr 2
  rw [padK, List.getD_eq_getElem?_getD, List.getD_eq_getElem?_getD, List.getElem?_append]
  split
  ·
   rfl
  ·
   rw [List.getElem?_drop, List.getElem?_replicate, List.getElem?_eq_none (by omega)]
   split <;> rfl
 ·
  rw [if_neg hi, List.getElem?_eq_none (by omega), List.getElem?_eq_none (by simpa using hi)]
  rfl
def macR (kl ml : List UInt8) : List UInt8 := sum256 (xoA 92 kl 64 ++ sum256 (xoA 54 kl 64 ++ ml))
theorem macF_R {kl : List UInt8} (h : kl.length ≤ 64) (l0 l1 : List UInt8) : macF kl l0 l1 = macR kl (l0 ++ l1) := by
 rw [macF, inM, xo_all _ h, xo_all _ h]; rfl
theorem rmac_ok {kv mv : Value} {kl ml : List UInt8} {w0 : World} (hk : Rd w0 kv (kl.map vB)) (hkl : kl.length = 32) (hm : Rd w0 mv (ml.map vB)) (hn : ml.length ≤ 68719476736) :
  Calls Tryd.prog 71 #[kv, mv] w0 fun e w' => ∃ o op, e = .returned (.slice (some ⟨o, 0, none⟩) 32 (32 + op.length)) ∧ 32 + op.length ≤ 9223372036854775807 ∧ St w0 w' [⟨true, some o, blk 5 ((macR kl ml).map vB ++ op)⟩] := by
 obtain ⟨A, c, rfl, hc1, hc2, hcell⟩ := hk.isB
 rw [hkl] at hc1 ⊢
 have hk2 := hk
 rw [hkl] at hk
 refine calls_start 43 Tryd.func71 rfl Tryd.ntmps71 rfl fun a hF => ?_
 have hS := St.refl w0
 refine wK fun Kq1 hKq1 => ?_
 refine wR ?_
 refine wg hF rfl rfl rfl (gv_assign rfl (ev_const _ _)) fun a hF => ?_
 refine wN ?_
 refine tN (hKq1 _ _ ?_)
 refine wK fun Kq2 hKq2 => ?_
 refine wK fun Kq3 hKq3 => ?_
 refine wR ?_
 refine wg hF rfl rfl rfl (gv_move rfl (hF.t rfl)) fun a hF => ?_
 refine wg hF rfl rfl rfl (gv_len rfl u22 (hF.t rfl)) fun a hF => ?_
 refine wg hF rfl rfl rfl (gv_gtrF rfl (hF.t rfl) (ev_const _ _) (by decide)) fun a hF => ?_
 refine wN ?_
 refine tN (hKq3 _ _ ?_)
 refine wp_cond_false (hF.t rfl) ?_
 refine wp_skip ?_
 refine tN (hKq2 _ _ ?_)
 refine wK fun Kq4 hKq4 => ?_
 refine wR ?_
 refine wg hF rfl rfl rfl (gv_assign rfl (ev_const _ _)) fun a hF => ?_
 refine wg hF rfl rfl rfl (gv_assign rfl (ev_const _ _)) fun a hF => ?_
 refine wN ?_
 refine tN (hKq4 _ _ ?_)
 refine wK fun Kq5 hKq5 => ?_
 refine wK fun Kq6 hKq6 => ?_
 refine wR ?_
 refine wg hF rfl rfl rfl (gv_assign rfl (ev_const _ _)) fun a hF => ?_
 refine wN ?_
 refine tN (hKq6 _ _ ?_)
 refine wp_block ?_
 obtain ⟨b1, o1, rfl, _⟩ := hcell (by omega)
 replace hS := (hS.addNil (blk 5 ((xoA 92 kl 0).map vB ++ []))).addNil (blk 5 ((xoA 54 kl 0).map vB ++ []))
 refine wp_loop_n (fun q a w => ∃ (i : Nat) (ib ob : Option Nat) (ibp obp : List Value), i ≤ 64 ∧ q = 64 - i ∧ (ib = none → (xoA 54 kl i) = [] ∧ ibp = []) ∧ ((xoA 54 kl i)).length + ibp.length ≤ 9223372036854775807 ∧ (ob = none → (xoA 92 kl i) = [] ∧ obp = []) ∧ ((xoA 92 kl i)).length + obp.length ≤ 9223372036854775807 ∧ Fr 43 a [(0, .slice (some ⟨b1, o1, none⟩) 32 c), (1, mv), (5, ownV ib (xoA 54 kl i).length ((xoA 54 kl i).length + ibp.length)), (6, ownV ob (xoA 92 kl i).length ((xoA 92 kl i).length + obp.length)), (7, vI i)] ∧ St w0 w [⟨true, ib, blk 5 ((xoA 54 kl i).map vB ++ ibp)⟩, ⟨true, ob, blk 5 ((xoA 92 kl i).map vB ++ obp)⟩]) 64 ⟨0, none, none, [], [], by omega, by omega, fun _ => ⟨rfl, rfl⟩, by simp [xoA], fun _ => ⟨rfl, rfl⟩, by simp [xoA], hF.sub ⟨rfl, rfl, rfl, rfl, rfl, trivial⟩, hS⟩ ?_
 rintro q a w ⟨i, ib, ob, ibp, obp, hi, hq, ibo, ibc, obo, obc, hF, hS⟩
 refine wK fun Kq7 hKq7 => ?_
 refine wK fun Kq8 hKq8 => ?_
 refine wR ?_
 refine wg hF rfl rfl rfl (gv_move rfl (hF.t rfl)) fun a hF => ?_
 refine wg hF rfl rfl rfl (gv_lss rfl (hF.t rfl) (ev_const _ _)) fun a hF => ?_
 refine wN ?_
 refine tN (hKq8 _ _ ?_)
 refine cond_dec (hF.t rfl) (fun h15 => ?_) (fun h15 => ?_)
 ·
  refine wp_skip ?_
  refine tN (hKq7 _ _ ?_)
  refine wK fun Kq9 hKq9 => ?_
  refine wp_block ?_
  refine wK fun Kq10 hKq10 => ?_
  refine wR ?_
  refine wg hF rfl rfl rfl (gv_assign rfl (ev_const _ _)) fun a hF => ?_
  refine wN ?_
  refine tN (hKq10 _ _ ?_)
  refine wp_cut (fun a w => Fr 43 a [(0, .slice (some ⟨b1, o1, none⟩) 32 c), (1, mv), (5, ownV ib (xoA 54 kl i).length ((xoA 54 kl i).length + ibp.length)), (6, ownV ob (xoA 92 kl i).length ((xoA 92 kl i).length + obp.length)), (7, vI i), (8, vB (kl.getD i 0))] ∧ St w0 w [⟨true, ib, blk 5 ((xoA 54 kl i).map vB ++ ibp)⟩, ⟨true, ob, blk 5 ((xoA 92 kl i).map vB ++ obp)⟩]) ?_ ?_
  ·
   refine wK fun Kq11 hKq11 => ?_
   refine wR ?_
   refine wg hF rfl rfl rfl (gv_move rfl (hF.t rfl)) fun a hF => ?_
   refine wg hF rfl rfl rfl (gv_move rfl (hF.t rfl)) fun a hF => ?_
   refine wg hF rfl rfl rfl (gv_len rfl u22 (hF.t rfl)) fun a hF => ?_
   refine wg hF rfl rfl rfl (gv_lss rfl (hF.t rfl) (hF.t rfl)) fun a hF => ?_
   refine wN ?_
   refine tN (hKq11 _ _ ?_)
   refine cond_dec (hF.t rfl) (fun h21 => ?_) (fun h21 => ?_)
   ·
    refine wR ?_
    refine wg hF rfl rfl rfl (gv_move rfl (hF.t rfl)) fun a hF => ?_
    refine wg hF rfl rfl rfl (gv_move rfl (hF.t rfl)) fun a hF => ?_
    refine wg hF rfl rfl rfl (gv_indexSl rfl u22 z5 (hF.t rfl) (hF.t rfl) (by omega)) fun a hF => ?_
    refine wg hF rfl rfl rfl (gv_load rfl u5 rfl (hF.t rfl) (cell_ix ((hk.ext (hS.toExt (nw_cons rfl (nw_cons rfl nw_nil)))).cellB i (by omega)) (by omega))) fun a hF => ?_
    refine wg hF rfl rfl rfl (gv_assign rfl (hF.t rfl)) fun a hF => ?_
    refine wN ?_
    refine then_normal ?_
    exact ⟨hF.sub ⟨rfl, rfl, rfl, rfl, rfl, rfl, trivial⟩, hS⟩
   ·
    refine wp_skip ?_
    refine then_normal ?_
    have hz : kl.getD i 0 = 0 := by rw [List.getD_eq_getElem?_getD, List.getElem?_eq_none (by omega)]; rfl
    exact ⟨by rw [hz]; exact hF.sub ⟨rfl, rfl, rfl, rfl, rfl, rfl, trivial⟩, hS⟩
  ·
   rintro a w ⟨hF, hS⟩
   refine wK fun Kq12 hKq12 => ?_
   refine wR ?_
   refine wg hF rfl rfl rfl (gv_move rfl (hF.t rfl)) fun a hF => ?_
   refine wg hF rfl rfl rfl (gv_move rfl (hF.t rfl)) fun a hF => ?_
   refine wg hF rfl rfl rfl (gv_b_xor (n := 54) rfl (hF.t rfl) rfl) fun a hF => ?_
   refine wpList_stp (stp_build1 (v := _) hF (wanted_none rfl) rfl rfl rfl u22 Tryd.ty5 (hF.t rfl) hS fun zb a w hF hS => ?_)
   refine wpList_stp (stp_app1 (k := 0) hF (wanted_none rfl) rfl rfl rfl u22 Tryd.ty5 rfl (hF.t rfl) (hF.t rfl) hS rfl ibo ibc (by rw [xoA_len]; omega) fun ib ibp a w hF ibo ibc hS => ?_)
   refine wg hF rfl rfl rfl (gv_assign rfl (hF.t rfl)) fun a hF => ?_
   refine wN ?_
   refine tN (hKq12 _ _ ?_)
   refine wR ?_
   refine wg hF rfl rfl rfl (gv_move rfl (hF.t rfl)) fun a hF => ?_
   refine wg hF rfl rfl rfl (gv_move rfl (hF.t rfl)) fun a hF => ?_
   refine wg hF rfl rfl rfl (gv_b_xor (n := 92) rfl (hF.t rfl) rfl) fun a hF => ?_
   refine wpList_stp (stp_build1 (v := _) hF (wanted_none rfl) rfl rfl rfl u22 Tryd.ty5 (hF.t rfl) hS fun zb a w hF hS => ?_)
   refine wpList_stp (stp_app1 (k := 1) hF (wanted_none rfl) rfl rfl rfl u22 Tryd.ty5 rfl (hF.t rfl) (hF.t rfl) hS rfl obo obc (by rw [xoA_len]; omega) fun ob obp a w hF obo obc hS => ?_)
   refine wg hF rfl rfl rfl (gv_assign rfl (hF.t rfl)) fun a hF => ?_
   refine wN ?_
   refine block_normal ?_
   refine tN (hKq9 _ _ ?_)
   refine wR ?_
   refine wg hF rfl rfl rfl (gv_move rfl (hF.t rfl)) fun a hF => ?_
   refine wg hF rfl rfl rfl (gv_nadd (n := 1) rfl (hF.t rfl) rfl (by omega)) fun a hF => ?_
   refine wg hF rfl rfl rfl (gv_assign rfl (hF.t rfl)) fun a hF => ?_
   refine wN ?_
   refine then_normal ?_
   rw [xoA_succ 54] at hF ibo ibc hS
   rw [xoA_succ 92] at hF obo obc hS
   exact ⟨q - 1, by omega, i + 1, ib, ob, ibp, obp, by omega, by omega, ibo, ibc, obo, obc, hF.sub ⟨rfl, rfl, rfl, rfl, rfl, trivial⟩, hS⟩
 ·
  refine wp_exit ?_
  refine then_exit ?_
  refine then_exit ?_
  refine block_exit ?_
  refine tN (hKq5 _ _ ?_)
  refine wK fun Kq13 hKq13 => ?_
  obtain rfl : i = 64 := by omega
  have hR : macR kl ml = sum256 (xoA 92 kl 64 ++ sum256 (xoA 54 kl 64 ++ ml)) := rfl
  have hXl := xoA_len 54 kl 64
  have hYl := xoA_len 92 kl 64
  generalize xoA 54 kl 64 = X at hF hS ibo ibc hXl hR
  generalize xoA 92 kl 64 = Y at hF hS obo obc hYl hR
  refine wR ?_
  refine wg hF rfl rfl rfl (gv_move rfl (hF.t rfl)) fun a hF => ?_
  refine wg hF rfl rfl rfl (gv_move rfl (hF.t rfl)) fun a hF => ?_
  refine wg hF rfl rfl rfl (gv_move rfl (hF.t rfl)) fun a hF => ?_
  refine wpList_stp (stp_appB (k := 0) hF (wanted_none rfl) rfl rfl rfl u22 Tryd.ty5 rfl (hF.t rfl) (hF.t rfl) hS rfl ibo ibc (hm.ext (hS.toExt (nw_cons rfl (nw_cons rfl nw_nil)))) (by rw [hXl]; omega) fun ib ibp a w hF ibo ibc hS => ?_)
  refine wpList_stp (stp_call hF (wanted_none rfl) rfl rfl Tryd.ok64 rfl (Evs.cons (hF.t rfl) (Evs.cons (ev_const _ _) Evs.nil)) (rsum_ok ((own_rd (w0 := w0) (ob := ib) (l := X ++ ml) (List.mem_of_getElem? (i := 0) rfl) ibo rfl ibc) w _ hS (nw_cons rfl (nw_cons rfl nw_nil)) (fun e he => he)) (by rw [List.length_append, hXl]; omega)) fun e w h => ?_)
  obtain ⟨s, sp, rfl, sc, hN⟩ := h
  refine ⟨_, rfl, fun a hF => ?_⟩
  replace hS := hS.join hN (nw_cons rfl nw_nil)
  simp only [List.cons_append, List.nil_append] at hS
  clear hN
  obtain ⟨SA, hSA⟩ : ∃ SA, SA = sum256 (X ++ ml) := ⟨_, rfl⟩
  have hSl : SA.length = 32 := by rw [hSA, sum256_len]
  rw [← hSA] at hS
  refine wpList_stp (stp_appB (k := 2) hF (wanted_none rfl) rfl rfl rfl u22 Tryd.ty5 rfl (hF.t rfl) (hF.t rfl) hS rfl obo obc ((own_rd (w0 := w0) (ob := some s) (l := SA) (List.mem_of_getElem? (i := 0) rfl) (fun h => by cases h) hSl sc) w _ hS (nw_cons rfl (nw_cons rfl (nw_cons rfl nw_nil))) (fun e he => he)) (by rw [hYl, hSl]; omega) fun ob obp a w hF obo obc hS => ?_)
  refine wpList_stp (stp_call hF (wanted_none rfl) rfl rfl Tryd.ok64 rfl (Evs.cons (hF.t rfl) (Evs.cons (ev_const _ _) Evs.nil)) (rsum_ok ((own_rd (w0 := w0) (ob := ob) (l := Y ++ SA) (List.mem_of_getElem? (i := 2) rfl) obo rfl obc) w _ hS (nw_cons rfl (nw_cons rfl (nw_cons rfl nw_nil))) (fun e he => he)) (by rw [List.length_append, hYl, hSl]; omega)) fun e w h => ?_)
  obtain ⟨t, tp, rfl, tc, hN⟩ := h
  refine ⟨_, rfl, fun a hF => ?_⟩
  replace hS := hS.join hN (nw_cons rfl nw_nil)
  simp only [List.cons_append, List.nil_append] at hS
  clear hN
  refine wg hF rfl rfl rfl (gv_assign rfl (hF.t rfl)) fun a hF => ?_
  refine wN ?_
  refine tN (hKq13 _ _ ?_)
  refine wp_ret ?_
  refine ret1 (fn := Tryd.f71) (t := 4) hF rfl rfl ?_
  rw [hR, ← hSA]
  exact ⟨t, tp, rfl, tc, stTake hS 1 (nw_cons rfl (nw_cons rfl (nw_cons rfl nw_nil)))⟩
theorem rdraw_ok {sl : List UInt8} {n : UInt64} {w0 : World} (hn : sl.length ≤ 274877906944) :
  Calls Tryd.prog 55 #[sV sl, vD n] w0 fun e w' => ∃ o op, e = .returned (.slice (some ⟨o, 0, none⟩) 32 (32 + op.length)) ∧ 32 + op.length ≤ 9223372036854775807 ∧ St w0 w' [⟨true, some o, blk 5 ((drawF sl n).map vB ++ op)⟩] := by
 refine calls_start 24 Tryd.func55 rfl Tryd.ntmps55 rfl fun a hF => ?_
 have hS := St.refl w0
 refine wK fun Kq1 hKq1 => ?_
 refine wR ?_
 refine wg hF rfl rfl rfl (gv_assign rfl (ev_const _ _)) fun a hF => ?_
 refine wN ?_
 refine tN (hKq1 _ _ ?_)
 refine wK fun Kq2 hKq2 => ?_
 refine wR ?_
 refine wg hF rfl rfl rfl (gv_move rfl (hF.t rfl)) fun a hF => ?_
 refine wpList_stp (stp_strBytes hF (wanted_none rfl) rfl rfl rfl u9 u22 u5 (hF.t rfl) (by omega) hS fun b bp a w hF bc hS => ?_)
 refine wg hF rfl rfl rfl (gv_assign rfl (hF.t rfl)) fun a hF => ?_
 refine wN ?_
 refine tN (hKq2 _ _ ?_)
 refine wK fun Kq3 hKq3 => ?_
 refine wK fun Kq4 hKq4 => ?_
 refine wR ?_
 refine wg hF rfl rfl rfl (gv_assign rfl (ev_const _ _)) fun a hF => ?_
 refine wN ?_
 refine tN (hKq4 _ _ ?_)
 refine wp_block ?_
 rw [d1_zero sl n] at hS
 have hl0 := d1_len sl n 0
 refine wp_loop_n (fun q1 a w => ∃ (q : Nat) (f : Bool) (b : Nat) (bp : List Value), q ≤ 8 ∧ q1 = 8 - q ∧ (d1 sl n q).length + bp.length ≤ 9223372036854775807 ∧ Fr 24 a [(1, vD n), (5, .slice (some ⟨b, 0, none⟩) (d1 sl n q).length ((d1 sl n q).length + bp.length)), (6, vI q)] ∧ St w0 w [⟨true, some b, blkX f 5 ((d1 sl n q).map vB ++ bp)⟩]) 8 ⟨0, true, b, bp, by omega, by omega, by rw [hl0]; exact bc, by rw [hl0]; exact hF.sub ⟨rfl, rfl, rfl, trivial⟩, hS⟩ ?_
 rintro q1 a w ⟨q, f, b, bp, hq, hn1, bc, hF, hS⟩
 have hzl := d1_len sl n q
 refine wK fun Kq5 hKq5 => ?_
 refine wK fun Kq6 hKq6 => ?_
 refine wR ?_
 refine wg hF rfl rfl rfl (gv_move rfl (hF.t rfl)) fun a hF => ?_
 refine wg hF rfl rfl rfl (gv_lss rfl (hF.t rfl) (ev_const _ _)) fun a hF => ?_
 refine wN ?_
 refine tN (hKq6 _ _ ?_)
 refine cond_dec (hF.t rfl) (fun h10 => ?_) (fun h10 => ?_)
 ·
  refine wp_skip ?_
  refine tN (hKq5 _ _ ?_)
  refine wK fun Kq7 hKq7 => ?_
  refine wp_block ?_
  refine wR ?_
  refine wg hF rfl rfl rfl (gv_move rfl (hF.t rfl)) fun a hF => ?_
  refine wg hF rfl rfl rfl (gv_move rfl (hF.t rfl)) fun a hF => ?_
  refine wg hF rfl rfl rfl (gv_move rfl (hF.t rfl)) fun a hF => ?_
  refine wg hF rfl rfl rfl (gv_nmul (m := 8) rfl rfl (hF.t rfl) (by omega)) fun a hF => ?_
  refine wg hF rfl rfl rfl (gv_nsub (m := 56) rfl rfl (hF.t rfl) (by omega) (by omega)) fun a hF => ?_
  refine wg hF rfl rfl rfl (gv_d_shr rfl (hF.t rfl) (hF.t rfl) (by omega)) fun a hF => ?_
  refine wg hF rfl rfl rfl (gv_conv_d_b rfl u76 u5 (hF.t rfl)) fun a hF => ?_
  refine wpList_stp (stp_build1 (v := _) hF (wanted_none rfl) rfl rfl rfl u22 Tryd.ty5 (hF.t rfl) hS fun zb a w hF hS => ?_)
  refine wpList_stp (stp_app1X (k := 0) hF (wanted_none rfl) rfl rfl rfl u22 Tryd.ty5 rfl (hF.t rfl) (hF.t rfl) hS rfl bc (by omega) fun f b bp a w hF bc hS => ?_)
  refine wg hF rfl rfl rfl (gv_assign rfl (hF.t rfl)) fun a hF => ?_
  refine wN ?_
  refine block_normal ?_
  refine tN (hKq7 _ _ ?_)
  refine wR ?_
  refine wg hF rfl rfl rfl (gv_move rfl (hF.t rfl)) fun a hF => ?_
  refine wg hF rfl rfl rfl (gv_nadd (n := 1) rfl (hF.t rfl) rfl (by omega)) fun a hF => ?_
  refine wg hF rfl rfl rfl (gv_assign rfl (hF.t rfl)) fun a hF => ?_
  refine wN ?_
  refine then_normal ?_
  rw [show 56 - 8 * q = 8 * (7 - q) by omega, d1_succ _ _ _ _ rfl] at hF bc hS
  exact ⟨q1 - 1, by omega, q + 1, f, b, bp, by omega, by omega, bc, hF.sub ⟨rfl, rfl, rfl, trivial⟩, hS⟩
 ·
  refine wp_exit ?_
  refine then_exit ?_
  refine then_exit ?_
  refine block_exit ?_
  refine tN (hKq3 _ _ ?_)
  refine wK fun Kq8 hKq8 => ?_
  obtain rfl : q = 8 := by omega
  refine wR ?_
  refine wg hF rfl rfl rfl (gv_move rfl (hF.t rfl)) fun a hF => ?_
  refine wpList_stp (stp_call hF (wanted_none rfl) rfl rfl Tryd.ok64 rfl (Evs.cons (hF.t rfl) (Evs.cons (ev_const _ _) Evs.nil)) (rsum_ok (rdX hS List.mem_cons_self rfl bc) (by omega)) fun e w h => ?_)
  obtain ⟨t, tp, rfl, tc, hN⟩ := h
  refine ⟨_, rfl, fun a hF => ?_⟩
  replace hS := hS.join hN (nw_cons rfl nw_nil)
  simp only [List.cons_append, List.nil_append] at hS
  clear hN
  refine wg hF rfl rfl rfl (gv_assign rfl (hF.t rfl)) fun a hF => ?_
  refine wN ?_
  refine tN (hKq8 _ _ ?_)
  refine wp_ret ?_
  refine ret1 (fn := Tryd.f55) (t := 4) hF rfl rfl ?_
  exact ⟨t, tp, rfl, tc, stTake hS 1 (nw_cons rfl nw_nil)⟩
end Go.Proofs.YtfhalnobaeogkaaDoor
set_option linter.unusedVariables false
set_option linter.unusedSimpArgs false
namespace Go.Proofs.YtfhalnobaeogkaaDoor
open Go Go.RowKit Go.Fw
theorem Tryd.ok54 : CallOk Tryd.prog 54 := ⟨_, Tryd.func54, by kernel_rfl, by kernel_rfl⟩
theorem Tryd.ok74 : CallOk Tryd.prog 74 := ⟨_, Tryd.func74, by kernel_rfl, by kernel_rfl⟩
theorem Tryd.ok90 : CallOk Tryd.prog 90 := ⟨_, Tryd.func90, by kernel_rfl, by kernel_rfl⟩
abbrev RSt := Option (List UInt8)
def takeR (k : Nat) : RSt → Option (List UInt8) × RSt
 | some xs => if k ≤ xs.length then (some (xs.take k), some (xs.drop k)) else (none, none)
 | none => (none, none)
def u32R (s : RSt) : UInt32 × RSt := match takeR 4 s with
 | (some ys, s') => (u32A ys 4, s')
 | (none, s') => (0, s')
theorem u32A_take {l : List UInt8} : ∀ i, i ≤ 4 → u32A (l.take 4) i = u32A l i
 | 0, _ => rfl
 | i + 1, h => by rw [u32A, u32A, u32A_take i (by omega), dgetD_take (by omega)]
theorem u32A_lt (l : List UInt8) : ∀ i, i ≤ 4 → (u32A l i).toNat < 256 ^ i
 | 0, _ => by show (0 : UInt32).toNat < 1; decide
 | i + 1, h => by
  have ih := u32A_lt l i (by omega)
  have hp : 256 ^ i ≤ 256 ^ 3 := Nat.pow_le_pow_right (by decide) (by omega)
  have hb := (l.getD i 0).toNat_lt
  rw [u32A, sh8 _ _ (by omega), Nat.pow_succ]
  omega
theorem u32A_nat (l : List UInt8) : (u32A l 4).toNat = (l.getD 0 0).toNat * 16777216 + (l.getD 1 0).toNat * 65536 + (l.getD 2 0).toNat * 256 + (l.getD 3 0).toNat := by
 have h1 := u32A_lt l 1 (by decide)
 have h2 := u32A_lt l 2 (by decide)
 have h3 := u32A_lt l 3 (by decide)
 have e4 : (u32A l 4).toNat = (u32A l 3).toNat * 256 + (l.getD 3 0).toNat := by rw [u32A, sh8 _ _ (by omega)]
 have e3 : (u32A l 3).toNat = (u32A l 2).toNat * 256 + (l.getD 2 0).toNat := by rw [u32A, sh8 _ _ (by omega)]
 have e2 : (u32A l 2).toNat = (u32A l 1).toNat * 256 + (l.getD 1 0).toNat := by rw [u32A, sh8 _ _ (by omega)]
 have e1 : (u32A l 1).toNat = 0 * 256 + (l.getD 0 0).toNat := by rw [u32A, sh8 _ _ (by show (0 : UInt32).toNat < 16777216; decide)]; rfl
 rw [e4, e3, e2, e1]
 clear h1 h2 h3 e1 e2 e3 e4
 omega
theorem u32R_snd (s : RSt) : (u32R s).2 = (takeR 4 s).2 := by
 unfold u32R; split <;> simp_all
abbrev curO (bv : Value) (i : Nat) (bad : Bool) : Obj := blk 143 [bv, vI i, .bool bad]
def CurR (w00 : World) (T : List Ent) (c : Nat) (bv : Value) (bl : List UInt8) : RSt → World → Prop
 | some xs, w => ∃ i, i ≤ bl.length ∧ xs = bl.drop i ∧ St w00 w (⟨true, some c, curO bv i false⟩ :: T)
 | none, w => ∃ i, St w00 w (⟨true, some c, curO bv i true⟩ :: T)
theorem CurR.st {w00 w : World} {T : List Ent} {c : Nat} {bv : Value} {bl : List UInt8} : ∀ {s : RSt}, CurR w00 T c bv bl s w → ∃ i bad, St w00 w (⟨true, some c, curO bv i bad⟩ :: T)
 | some xs, ⟨i, h1, h2, h3⟩ => ⟨_, _, h3⟩
 | none, ⟨i, h⟩ => ⟨_, _, h⟩
def CTakeP (w00 : World) (T : List Ent) (c : Nat) (bv : Value) (bl : List UInt8) (k : Nat) (s : RSt) (e : Ending) (w' : World) : Prop :=
 ∃ v, e = .returned v ∧ CurR w00 T c bv bl (takeR k s).2 w' ∧ SRd w00 T v (((takeR k s).1.getD []).map vB)
theorem byte_div (x : UInt32) (s d : Nat) (hd : d = 2 ^ s) (hs : s < 32) : UInt8.ofNat (x.toNat / d) = (x >>> UInt32.ofNat s).toUInt8 := by
 subst hd
 apply UInt8.toNat_inj.1
 rw [UInt8.toNat_ofNat', UInt32.toNat_toUInt8, UInt32.toNat_shiftRight, UInt32.toNat_ofNat', show s % 2 ^ 32 % 32 = s by omega, Nat.shiftRight_eq_div_pow]
theorem byte_low (x : UInt32) : UInt8.ofNat x.toNat = x.toUInt8 := by
 apply UInt8.toNat_inj.1
 rw [UInt8.toNat_ofNat', UInt32.toNat_toUInt8]
theorem u32B_nat (n : Nat) (h : n < 4294967296) : [UInt8.ofNat (n / 16777216), UInt8.ofNat (n / 65536), UInt8.ofNat (n / 256), UInt8.ofNat n] = u32B (UInt32.ofNat n) := by
 have e : (UInt32.ofNat n).toNat = n := by rw [UInt32.toNat_ofNat']; omega
 have h1 := byte_div (UInt32.ofNat n) 24 16777216 rfl (by decide)
 have h2 := byte_div (UInt32.ofNat n) 16 65536 rfl (by decide)
 have h3 := byte_div (UInt32.ofNat n) 8 256 rfl (by decide)
 have h4 := byte_low (UInt32.ofNat n)
 rw [e] at h1 h2 h3 h4
 rw [u32B, h1, h2, h3, h4]
theorem ru32_mk {n : Nat} {w0 : World} (hn : n < 4294967296) :
  Calls Tryd.prog 54 #[vI n] w0 fun e w' => ∃ b, e = .returned (.slice (some ⟨b, 0, none⟩) 4 4) ∧ St w0 w' [⟨true, some b, blkB 5 (u32B (UInt32.ofNat n))⟩] := by
 refine calls_start 15 Tryd.func54 rfl Tryd.ntmps54 rfl fun a hF => ?_
 have hS := St.refl w0
 refine wK fun Kq1 hKq1 => ?_
 refine wR ?_
 refine wg hF rfl rfl rfl (gv_assign rfl (ev_const _ _)) fun a hF => ?_
 refine wN ?_
 refine tN (hKq1 _ _ ?_)
 refine wK fun Kq2 hKq2 => ?_
 refine wR ?_
 refine wg hF rfl rfl rfl (gv_move rfl (hF.t rfl)) fun a hF => ?_
 refine wg hF rfl rfl rfl (gv_nquo (n := 16777216) rfl (hF.t rfl) rfl (by omega) (by omega)) fun a hF => ?_
 refine wg hF rfl rfl rfl (gv_conv_i_b rfl u3 u5 (hF.t rfl)) fun a hF => ?_
 refine wg hF rfl rfl rfl (gv_move rfl (hF.t rfl)) fun a hF => ?_
 refine wg hF rfl rfl rfl (gv_nquo (n := 65536) rfl (hF.t rfl) rfl (by omega) (by omega)) fun a hF => ?_
 refine wg hF rfl rfl rfl (gv_conv_i_b rfl u3 u5 (hF.t rfl)) fun a hF => ?_
 refine wg hF rfl rfl rfl (gv_move rfl (hF.t rfl)) fun a hF => ?_
 refine wg hF rfl rfl rfl (gv_nquo (n := 256) rfl (hF.t rfl) rfl (by omega) (by omega)) fun a hF => ?_
 refine wg hF rfl rfl rfl (gv_conv_i_b rfl u3 u5 (hF.t rfl)) fun a hF => ?_
 refine wg hF rfl rfl rfl (gv_move rfl (hF.t rfl)) fun a hF => ?_
 refine wg hF rfl rfl rfl (gv_conv_i_b rfl u3 u5 (hF.t rfl)) fun a hF => ?_
 refine wpList_stp (stp_build4 hF (wanted_none rfl) rfl rfl rfl u22 Tryd.ty5 (hF.t rfl) (hF.t rfl) (hF.t rfl) (hF.t rfl) hS fun zb a w hF hS => ?_)
 refine wg hF rfl rfl rfl (gv_assign rfl (hF.t rfl)) fun a hF => ?_
 refine wN ?_
 refine tN (hKq2 _ _ ?_)
 refine wp_ret ?_
 refine ret1 (fn := Tryd.f54) (t := 2) hF rfl rfl ?_
 rw [u32B_nat n hn] at hS
 exact ⟨zb, rfl, hS⟩
theorem ctake_bad {w00 w : World} {T : List Ent} {c i k cc : Nat} {A : Option Addr} {bl : List UInt8} (hS : St w00 w (⟨true, some c, curO (.slice A bl.length cc) i true⟩ :: T)) :
  Calls Tryd.prog 90 #[.pointer (some ⟨c, 0, none⟩), vI k] w fun e w' => e = .returned (.slice none 0 0) ∧ St w00 w' (⟨true, some c, curO (.slice A bl.length cc) i true⟩ :: T) := by
 refine calls_start 53 Tryd.func90 rfl Tryd.ntmps90 rfl fun a hF => ?_
 refine wK fun Kq1 hKq1 => ?_
 refine wR ?_
 refine wg hF rfl rfl rfl (gv_assign rfl (ev_const _ _)) fun a hF => ?_
 refine wN ?_
 refine tN (hKq1 _ _ ?_)
 refine wK fun Kq2 hKq2 => ?_
 refine wK fun Kq3 hKq3 => ?_
 refine Fw.wp_region_draw (by kernel_rfl) fun w hx => ?_
 replace hS := hS.ext hx
 clear hx
 refine run_head0 (n := 22) _ hF (by kernel_rfl) rfl ?_
 refine dg hF rfl rfl rfl rfl (fun w hx => gv_move rfl (hF.t rfl)) fun a hF => ?_
 refine dg hF rfl rfl rfl rfl (fun w hx => gv_nilCheck rfl (hF.t rfl)) fun a hF => ?_
 refine dg hF rfl rfl rfl rfl (fun w hx => gv_field (r := 2) rfl u143 rfl rfl z4 (by decide) (hF.t rfl)) fun a hF => ?_
 refine dg hF rfl rfl rfl rfl (fun w hx => gv_load rfl u4 rfl (hF.t rfl) (cell_ix (j := 2) ((hS.ext hx).cell (k := 0) rfl (rfl)) (by omega))) fun a hF => ?_
 refine dg hF rfl rfl rfl rfl (fun w hx => gv_move rfl (hF.t rfl)) fun a hF => ?_
 refine dw_skip hF rfl (unwanted_of hF rfl rfl (rfl) rfl) rfl rfl fun a hF => ?_
 refine dw_skip hF rfl (unwanted_of hF rfl rfl (rfl) rfl) rfl rfl fun a hF => ?_
 refine dg hF rfl rfl rfl rfl (fun w hx => gv_pickT rfl (hF.t rfl) (ev_const _ _)) fun a hF => ?_
 refine dg hF rfl rfl rfl rfl (fun w hx => gv_move rfl (hF.t rfl)) fun a hF => ?_
 refine dw_skip hF rfl (unwanted_of hF rfl rfl (rfl) rfl) rfl rfl fun a hF => ?_
 refine dw_skip hF rfl (unwanted_of hF rfl rfl (rfl) rfl) rfl rfl fun a hF => ?_
 refine dw_skip hF rfl (unwanted_of hF rfl rfl (rfl) rfl) rfl rfl fun a hF => ?_
 refine dw_skip hF rfl (unwanted_of hF rfl rfl (rfl) rfl) rfl rfl fun a hF => ?_
 refine dw_skip hF rfl (unwanted_of hF rfl rfl (rfl) rfl) rfl rfl fun a hF => ?_
 refine dw_skip hF rfl (unwanted_of hF rfl rfl (rfl) rfl) rfl rfl fun a hF => ?_
 refine dw_skip hF rfl (unwanted_of hF rfl rfl (rfl) rfl) rfl rfl fun a hF => ?_
 refine dw_skip hF rfl (unwanted_of hF rfl rfl (rfl) rfl) rfl rfl fun a hF => ?_
 refine dw_skip hF rfl (unwanted_of hF rfl rfl (rfl) rfl) rfl rfl fun a hF => ?_
 refine dw_skip hF rfl (unwanted_of hF rfl rfl (rfl) rfl) rfl rfl fun a hF => ?_
 refine dw_skip hF rfl (unwanted_of hF rfl rfl (rfl) rfl) rfl rfl fun a hF => ?_
 refine dw_skip hF rfl (unwanted_of hF rfl rfl (rfl) rfl) rfl rfl fun a hF => ?_
 refine dg hF rfl rfl rfl rfl (fun w hx => gv_pickT rfl (hF.t rfl) (ev_const _ _)) fun a hF => ?_
 refine dw_nil fun a w hA hx => ?_
 replace hF := hA _ hF
 replace hS := hS.ext hx
 clear hA hx
 refine run_done (by decide) ?_
 refine tN (hKq3 _ _ ?_)
 refine wp_cond_true (hF.t rfl) ?_
 refine wK fun Kq4 hKq4 => ?_
 refine wR ?_
 refine wg hF rfl rfl rfl (gv_move rfl (hF.t rfl)) fun a hF => ?_
 refine wg hF rfl rfl rfl (gv_nilCheck rfl (hF.t rfl)) fun a hF => ?_
 refine wg hF rfl rfl rfl (gv_field (r := 2) rfl u143 rfl rfl z4 (by decide) (hF.t rfl)) fun a hF => ?_
 refine wpList_stp (stp_storeAt (2) hF (wanted_none rfl) rfl rfl z4 (hF.t rfl) (by omega) (ev_const _ _) rfl hS (k := 0) rfl (by simp) fun w hS => ?_)
 refine wN ?_
 refine tN (hKq4 _ _ ?_)
 refine wK fun Kq5 hKq5 => ?_
 refine wR ?_
 refine wg hF rfl rfl rfl (gv_assign rfl (ev_const _ _)) fun a hF => ?_
 refine wN ?_
 refine tN (hKq5 _ _ ?_)
 refine wp_ret ?_
 refine then_ret ?_
 refine ret1 (fn := Tryd.f90) (t := 4) hF rfl rfl ?_
 exact ⟨rfl, hS⟩
theorem ctake_short {w00 w : World} {T : List Ent} {c i k cc : Nat} {A : Option Addr} {bl : List UInt8} (hS : St w00 w (⟨true, some c, curO (.slice A bl.length cc) i false⟩ :: T)) (hi : i ≤ bl.length) (hk : bl.length - i < k) (hbl : bl.length ≤ 1152921504606846976) :
  Calls Tryd.prog 90 #[.pointer (some ⟨c, 0, none⟩), vI k] w fun e w' => e = .returned (.slice none 0 0) ∧ St w00 w' (⟨true, some c, curO (.slice A bl.length cc) i true⟩ :: T) := by
 refine calls_start 53 Tryd.func90 rfl Tryd.ntmps90 rfl fun a hF => ?_
 refine wK fun Kq1 hKq1 => ?_
 refine wR ?_
 refine wg hF rfl rfl rfl (gv_assign rfl (ev_const _ _)) fun a hF => ?_
 refine wN ?_
 refine tN (hKq1 _ _ ?_)
 refine wK fun Kq2 hKq2 => ?_
 refine wK fun Kq3 hKq3 => ?_
 refine Fw.wp_region_draw (by kernel_rfl) fun w hx => ?_
 replace hS := hS.ext hx
 clear hx
 refine run_head0 (n := 22) _ hF (by kernel_rfl) rfl ?_
 refine dg hF rfl rfl rfl rfl (fun w hx => gv_move rfl (hF.t rfl)) fun a hF => ?_
 refine dg hF rfl rfl rfl rfl (fun w hx => gv_nilCheck rfl (hF.t rfl)) fun a hF => ?_
 refine dg hF rfl rfl rfl rfl (fun w hx => gv_field (r := 2) rfl u143 rfl rfl z4 (by decide) (hF.t rfl)) fun a hF => ?_
 refine dg hF rfl rfl rfl rfl (fun w hx => gv_load rfl u4 rfl (hF.t rfl) (cell_ix (j := 2) ((hS.ext hx).cell (k := 0) rfl (rfl)) (by omega))) fun a hF => ?_
 refine dg hF rfl rfl rfl rfl (fun w hx => gv_move rfl (hF.t rfl)) fun a hF => ?_
 refine dw_gv hF rfl (wanted_of hF rfl rfl (rfl)) rfl rfl (fun w hx => gv_move rfl (hF.t rfl)) fun a hF => ?_
 refine dw_gv hF rfl (wanted_of hF rfl rfl (rfl)) rfl rfl (fun w hx => gv_lssF rfl (hF.t rfl) (ev_const _ _) (by omega)) fun a hF => ?_
 refine dg hF rfl rfl rfl rfl (fun w hx => gv_pickF rfl (hF.t rfl) (hF.t rfl)) fun a hF => ?_
 refine dg hF rfl rfl rfl rfl (fun w hx => gv_move rfl (hF.t rfl)) fun a hF => ?_
 refine dw_gv hF rfl (wanted_of hF rfl rfl (rfl)) rfl rfl (fun w hx => gv_move rfl (hF.t rfl)) fun a hF => ?_
 refine dw_gv hF rfl (wanted_of hF rfl rfl (rfl)) rfl rfl (fun w hx => gv_move rfl (hF.t rfl)) fun a hF => ?_
 refine dw_gv hF rfl (wanted_of hF rfl rfl (rfl)) rfl rfl (fun w hx => gv_nilCheck rfl (hF.t rfl)) fun a hF => ?_
 refine dw_gv hF rfl (wanted_of hF rfl rfl (rfl)) rfl rfl (fun w hx => gv_field (r := 0) rfl u143 rfl rfl z22 (by decide) (hF.t rfl)) fun a hF => ?_
 refine dw_gv hF rfl (wanted_of hF rfl rfl (rfl)) rfl rfl (fun w hx => gv_load rfl u22 rfl (hF.t rfl) (cell_ix (j := 0) ((hS.ext hx).cell (k := 0) rfl (rfl)) (by omega))) fun a hF => ?_
 refine dw_gv hF rfl (wanted_of hF rfl rfl (rfl)) rfl rfl (fun w hx => gv_len rfl u22 (hF.t rfl)) fun a hF => ?_
 refine dw_gv hF rfl (wanted_of hF rfl rfl (rfl)) rfl rfl (fun w hx => gv_move rfl (hF.t rfl)) fun a hF => ?_
 refine dw_gv hF rfl (wanted_of hF rfl rfl (rfl)) rfl rfl (fun w hx => gv_nilCheck rfl (hF.t rfl)) fun a hF => ?_
 refine dw_gv hF rfl (wanted_of hF rfl rfl (rfl)) rfl rfl (fun w hx => gv_field (r := 1) rfl u143 rfl rfl z3 (by decide) (hF.t rfl)) fun a hF => ?_
 refine dw_gv hF rfl (wanted_of hF rfl rfl (rfl)) rfl rfl (fun w hx => gv_load rfl u3 rfl (hF.t rfl) (cell_ix (j := 1) ((hS.ext hx).cell (k := 0) rfl (rfl)) (by omega))) fun a hF => ?_
 refine dw_gv hF rfl (wanted_of hF rfl rfl (rfl)) rfl rfl (fun w hx => gv_nsub rfl (hF.t rfl) (hF.t rfl) (by omega) (by omega)) fun a hF => ?_
 refine dw_gv hF rfl (wanted_of hF rfl rfl (rfl)) rfl rfl (fun w hx => gv_gtrT rfl (hF.t rfl) (hF.t rfl) (by omega)) fun a hF => ?_
 refine dg hF rfl rfl rfl rfl (fun w hx => gv_pickF rfl (hF.t rfl) (hF.t rfl)) fun a hF => ?_
 refine dw_nil fun a w hA hx => ?_
 replace hF := hA _ hF
 replace hS := hS.ext hx
 clear hA hx
 refine run_done (by decide) ?_
 refine tN (hKq3 _ _ ?_)
 refine wp_cond_true (hF.t rfl) ?_
 refine wK fun Kq4 hKq4 => ?_
 refine wR ?_
 refine wg hF rfl rfl rfl (gv_move rfl (hF.t rfl)) fun a hF => ?_
 refine wg hF rfl rfl rfl (gv_nilCheck rfl (hF.t rfl)) fun a hF => ?_
 refine wg hF rfl rfl rfl (gv_field (r := 2) rfl u143 rfl rfl z4 (by decide) (hF.t rfl)) fun a hF => ?_
 refine wpList_stp (stp_storeAt (2) hF (wanted_none rfl) rfl rfl z4 (hF.t rfl) (by omega) (ev_const _ _) rfl hS (k := 0) rfl (by simp) fun w hS => ?_)
 refine wN ?_
 refine tN (hKq4 _ _ ?_)
 refine wK fun Kq5 hKq5 => ?_
 refine wR ?_
 refine wg hF rfl rfl rfl (gv_assign rfl (ev_const _ _)) fun a hF => ?_
 refine wN ?_
 refine tN (hKq5 _ _ ?_)
 refine wp_ret ?_
 refine then_ret ?_
 refine ret1 (fn := Tryd.f90) (t := 4) hF rfl rfl ?_
 exact ⟨rfl, hS⟩
theorem ctake_ok {w00 w : World} {T : List Ent} {c i k cc : Nat} {A : Option Addr} {bl : List UInt8} (hS : St w00 w (⟨true, some c, curO (.slice A bl.length cc) i false⟩ :: T)) (hi : i ≤ bl.length) (hk : k ≤ bl.length - i) (hc : bl.length ≤ cc) (hbl : bl.length ≤ 1152921504606846976) :
  Calls Tryd.prog 90 #[.pointer (some ⟨c, 0, none⟩), vI k] w fun e w' => e = .returned (cut3V A i (i + k) cc) ∧ St w00 w' (⟨true, some c, curO (.slice A bl.length cc) (i + k) false⟩ :: T) := by
 refine calls_start 53 Tryd.func90 rfl Tryd.ntmps90 rfl fun a hF => ?_
 refine wK fun Kq1 hKq1 => ?_
 refine wR ?_
 refine wg hF rfl rfl rfl (gv_assign rfl (ev_const _ _)) fun a hF => ?_
 refine wN ?_
 refine tN (hKq1 _ _ ?_)
 refine wK fun Kq2 hKq2 => ?_
 refine wK fun Kq3 hKq3 => ?_
 refine Fw.wp_region_draw (by kernel_rfl) fun w hx => ?_
 replace hS := hS.ext hx
 clear hx
 refine run_head0 (n := 22) _ hF (by kernel_rfl) rfl ?_
 refine dg hF rfl rfl rfl rfl (fun w hx => gv_move rfl (hF.t rfl)) fun a hF => ?_
 refine dg hF rfl rfl rfl rfl (fun w hx => gv_nilCheck rfl (hF.t rfl)) fun a hF => ?_
 refine dg hF rfl rfl rfl rfl (fun w hx => gv_field (r := 2) rfl u143 rfl rfl z4 (by decide) (hF.t rfl)) fun a hF => ?_
 refine dg hF rfl rfl rfl rfl (fun w hx => gv_load rfl u4 rfl (hF.t rfl) (cell_ix (j := 2) ((hS.ext hx).cell (k := 0) rfl (rfl)) (by omega))) fun a hF => ?_
 refine dg hF rfl rfl rfl rfl (fun w hx => gv_move rfl (hF.t rfl)) fun a hF => ?_
 refine dw_gv hF rfl (wanted_of hF rfl rfl (rfl)) rfl rfl (fun w hx => gv_move rfl (hF.t rfl)) fun a hF => ?_
 refine dw_gv hF rfl (wanted_of hF rfl rfl (rfl)) rfl rfl (fun w hx => gv_lssF rfl (hF.t rfl) (ev_const _ _) (by omega)) fun a hF => ?_
 refine dg hF rfl rfl rfl rfl (fun w hx => gv_pickF rfl (hF.t rfl) (hF.t rfl)) fun a hF => ?_
 refine dg hF rfl rfl rfl rfl (fun w hx => gv_move rfl (hF.t rfl)) fun a hF => ?_
 refine dw_gv hF rfl (wanted_of hF rfl rfl (rfl)) rfl rfl (fun w hx => gv_move rfl (hF.t rfl)) fun a hF => ?_
 refine dw_gv hF rfl (wanted_of hF rfl rfl (rfl)) rfl rfl (fun w hx => gv_move rfl (hF.t rfl)) fun a hF => ?_
 refine dw_gv hF rfl (wanted_of hF rfl rfl (rfl)) rfl rfl (fun w hx => gv_nilCheck rfl (hF.t rfl)) fun a hF => ?_
 refine dw_gv hF rfl (wanted_of hF rfl rfl (rfl)) rfl rfl (fun w hx => gv_field (r := 0) rfl u143 rfl rfl z22 (by decide) (hF.t rfl)) fun a hF => ?_
 refine dw_gv hF rfl (wanted_of hF rfl rfl (rfl)) rfl rfl (fun w hx => gv_load rfl u22 rfl (hF.t rfl) (cell_ix (j := 0) ((hS.ext hx).cell (k := 0) rfl (rfl)) (by omega))) fun a hF => ?_
 refine dw_gv hF rfl (wanted_of hF rfl rfl (rfl)) rfl rfl (fun w hx => gv_len rfl u22 (hF.t rfl)) fun a hF => ?_
 refine dw_gv hF rfl (wanted_of hF rfl rfl (rfl)) rfl rfl (fun w hx => gv_move rfl (hF.t rfl)) fun a hF => ?_
 refine dw_gv hF rfl (wanted_of hF rfl rfl (rfl)) rfl rfl (fun w hx => gv_nilCheck rfl (hF.t rfl)) fun a hF => ?_
 refine dw_gv hF rfl (wanted_of hF rfl rfl (rfl)) rfl rfl (fun w hx => gv_field (r := 1) rfl u143 rfl rfl z3 (by decide) (hF.t rfl)) fun a hF => ?_
 refine dw_gv hF rfl (wanted_of hF rfl rfl (rfl)) rfl rfl (fun w hx => gv_load rfl u3 rfl (hF.t rfl) (cell_ix (j := 1) ((hS.ext hx).cell (k := 0) rfl (rfl)) (by omega))) fun a hF => ?_
 refine dw_gv hF rfl (wanted_of hF rfl rfl (rfl)) rfl rfl (fun w hx => gv_nsub rfl (hF.t rfl) (hF.t rfl) (by omega) (by omega)) fun a hF => ?_
 refine dw_gv hF rfl (wanted_of hF rfl rfl (rfl)) rfl rfl (fun w hx => gv_gtrF rfl (hF.t rfl) (hF.t rfl) (by omega)) fun a hF => ?_
 refine dg hF rfl rfl rfl rfl (fun w hx => gv_pickF rfl (hF.t rfl) (hF.t rfl)) fun a hF => ?_
 refine dw_nil fun a w hA hx => ?_
 replace hF := hA _ hF
 replace hS := hS.ext hx
 clear hA hx
 refine run_done (by decide) ?_
 refine tN (hKq3 _ _ ?_)
 refine wp_cond_false (hF.t rfl) ?_
 refine wp_skip ?_
 refine tN (hKq2 _ _ ?_)
 refine wK fun Kq4 hKq4 => ?_
 refine wR ?_
 refine wg hF rfl rfl rfl (gv_move rfl (hF.t rfl)) fun a hF => ?_
 refine wg hF rfl rfl rfl (gv_nilCheck rfl (hF.t rfl)) fun a hF => ?_
 refine wg hF rfl rfl rfl (gv_field (r := 1) rfl u143 rfl rfl z3 (by decide) (hF.t rfl)) fun a hF => ?_
 refine wg hF rfl rfl rfl (gv_load rfl u3 rfl (hF.t rfl) (cell_ix (j := 1) (hS.cell (k := 0) rfl (rfl)) (by omega))) fun a hF => ?_
 refine wg hF rfl rfl rfl (gv_move rfl (hF.t rfl)) fun a hF => ?_
 refine wg hF rfl rfl rfl (gv_nadd rfl (hF.t rfl) (hF.t rfl) (by omega)) fun a hF => ?_
 refine wg hF rfl rfl rfl (gv_nilCheck rfl (hF.t rfl)) fun a hF => ?_
 refine wg hF rfl rfl rfl (gv_field (r := 1) rfl u143 rfl rfl z3 (by decide) (hF.t rfl)) fun a hF => ?_
 refine wpList_stp (stp_storeAt (1) hF (wanted_none rfl) rfl rfl z3 (hF.t rfl) (by omega) (hF.t rfl) rfl hS (k := 0) rfl (by simp) fun w hS => ?_)
 refine wN ?_
 refine tN (hKq4 _ _ ?_)
 refine wK fun Kq5 hKq5 => ?_
 refine Fw.wp_region_draw (by kernel_rfl) fun w hx => ?_
 replace hS := hS.ext hx
 clear hx
 refine run_head0 (n := 16) _ hF (by kernel_rfl) rfl ?_
 refine dg hF rfl rfl rfl rfl (fun w hx => gv_move rfl (hF.t rfl)) fun a hF => ?_
 refine dg hF rfl rfl rfl rfl (fun w hx => gv_nilCheck rfl (hF.t rfl)) fun a hF => ?_
 refine dg hF rfl rfl rfl rfl (fun w hx => gv_field (r := 0) rfl u143 rfl rfl z22 (by decide) (hF.t rfl)) fun a hF => ?_
 refine dg hF rfl rfl rfl rfl (fun w hx => gv_load rfl u22 rfl (hF.t rfl) (cell_ix (j := 0) ((hS.ext hx).cell (k := 0) rfl (rfl)) (by omega))) fun a hF => ?_
 refine dg hF rfl rfl rfl rfl (fun w hx => gv_move rfl (hF.t rfl)) fun a hF => ?_
 refine dg hF rfl rfl rfl rfl (fun w hx => gv_nilCheck rfl (hF.t rfl)) fun a hF => ?_
 refine dg hF rfl rfl rfl rfl (fun w hx => gv_field (r := 1) rfl u143 rfl rfl z3 (by decide) (hF.t rfl)) fun a hF => ?_
 refine dg hF rfl rfl rfl rfl (fun w hx => gv_load rfl u3 rfl (hF.t rfl) (cell_ix (j := 1) ((hS.ext hx).cell (k := 0) rfl (rfl)) (by omega))) fun a hF => ?_
 refine dg hF rfl rfl rfl rfl (fun w hx => gv_move rfl (hF.t rfl)) fun a hF => ?_
 refine dg hF rfl rfl rfl rfl (fun w hx => gv_nsub rfl (hF.t rfl) (hF.t rfl) (by omega) (by omega)) fun a hF => ?_
 rw [Nat.add_sub_cancel] at hF
 refine dg hF rfl rfl rfl rfl (fun w hx => gv_move rfl (hF.t rfl)) fun a hF => ?_
 refine dg hF rfl rfl rfl rfl (fun w hx => gv_nilCheck rfl (hF.t rfl)) fun a hF => ?_
 refine dg hF rfl rfl rfl rfl (fun w hx => gv_field (r := 1) rfl u143 rfl rfl z3 (by decide) (hF.t rfl)) fun a hF => ?_
 refine dg hF rfl rfl rfl rfl (fun w hx => gv_load rfl u3 rfl (hF.t rfl) (cell_ix (j := 1) ((hS.ext hx).cell (k := 0) rfl (rfl)) (by omega))) fun a hF => ?_
 refine dg hF rfl rfl rfl rfl (fun w hx => gv_slice2 rfl u22 z5 (hF.t rfl) (hF.t rfl) (hF.t rfl) (by omega) (by omega)) fun a hF => ?_
 refine dg hF rfl rfl rfl rfl (fun w hx => gv_assign rfl (hF.t rfl)) fun a hF => ?_
 refine dw_nil fun a w hA hx => ?_
 replace hF := hA _ hF
 replace hS := hS.ext hx
 clear hA hx
 refine run_done (by decide) ?_
 refine tN (hKq5 _ _ ?_)
 refine wp_ret ?_
 refine ret1 (fn := Tryd.f90) (t := 4) hF rfl rfl ?_
 exact ⟨rfl, hS⟩
theorem ctake_all {w00 w : World} {T : List Ent} {c k cc : Nat} {A : Option Addr} {bl : List UInt8} {s : RSt} (hB : SRd w00 T (.slice A bl.length cc) (bl.map vB)) (hc : bl.length ≤ cc) (hbl : bl.length ≤ 1152921504606846976) (h : CurR w00 T c (.slice A bl.length cc) bl s w) :
  Calls Tryd.prog 90 #[.pointer (some ⟨c, 0, none⟩), vI k] w (CTakeP w00 T c (.slice A bl.length cc) bl k s) := by
 cases s with
 | none =>
  obtain ⟨i, hS⟩ := h
  refine (ctake_bad hS).mono fun e w' ⟨he, hS'⟩ => ⟨_, he, ⟨i, hS'⟩, SRd.nil⟩
 | some xs =>
  obtain ⟨i, hi, rfl, hS⟩ := h
  have hdl : (bl.drop i).length = bl.length - i := List.length_drop
  by_cases hk : k ≤ bl.length - i
  ·
   refine (ctake_ok hS hi hk hc hbl).mono fun e w' ⟨he, hS'⟩ => ⟨_, he, ?_, ?_⟩
   ·
    simp only [takeR, hdl, if_pos hk]
    exact ⟨i + k, by omega, by rw [List.drop_drop], hS'⟩
   ·
    simp only [takeR, hdl, if_pos hk, Option.getD_some]
    have := SRd.cut3 (l := i) (h := i + k) (mx := cc) hB (by omega) (by omega) (by omega) (Nat.le_refl _)
    rw [← List.map_take, ← List.map_drop, List.drop_take, show i + k - i = k by omega] at this
    exact this
  ·
   refine (ctake_short hS hi (by omega) hbl).mono fun e w' ⟨he, hS'⟩ => ⟨_, he, ?_, ?_⟩
   ·
    simp only [takeR, hdl, if_neg hk]
    exact ⟨i, hS'⟩
   ·
    simp only [takeR, hdl, if_neg hk]
    exact SRd.nil
theorem takeR_none {k : Nat} {s : RSt} (h : (takeR k s).1 = none) : (takeR k s).2 = none := by
 cases s with
 | none => rfl
 | some xs =>
  by_cases hk : k ≤ xs.length
  ·
   simp only [takeR, if_pos hk] at h; cases h
  ·
   simp only [takeR, if_neg hk]
theorem takeR_snd {k : Nat} {s : RSt} {ys : List UInt8} (h : (takeR k s).1 = some ys) : ∃ zs, (takeR k s).2 = some zs := by
 cases s with
 | none => cases h
 | some xs =>
  by_cases hk : k ≤ xs.length
  ·
   simp only [takeR, if_pos hk]; exact ⟨_, rfl⟩
  ·
   simp only [takeR, if_neg hk] at h; cases h
theorem takeR_len {k : Nat} {s : RSt} {ys : List UInt8} (h : (takeR k s).1 = some ys) : ys.length = k := by
 cases s with
 | none => cases h
 | some xs =>
  by_cases hk : k ≤ xs.length
  ·
   simp only [takeR, if_pos hk] at h; injection h with h; subst h; rw [List.length_take]; omega
  ·
   simp only [takeR, if_neg hk] at h; cases h
theorem u32R_some {s : RSt} {ys : List UInt8} (h : (takeR 4 s).1 = some ys) : (u32R s).1 = u32A ys 4 := by
 unfold u32R; split
 ·
  rename_i h1; rw [h1] at h; injection h with h; rw [h]
 ·
  rename_i h1; rw [h1] at h; cases h
theorem u32R_none' {s : RSt} (h : (takeR 4 s).1 = none) : (u32R s).1 = 0 := by
 unfold u32R; split
 ·
  rename_i h1; rw [h1] at h; cases h
 ·
  rfl
theorem cu32_none {w00 w : World} {T : List Ent} {c cc : Nat} {A : Option Addr} {bl : List UInt8} {s : RSt} (hT : ∀ e ∈ T, e.nw = true) (hB : SRd w00 T (.slice A bl.length cc) (bl.map vB)) (hc : bl.length ≤ cc) (hbl : bl.length ≤ 1152921504606846976) (hR : CurR w00 T c (.slice A bl.length cc) bl s w) (hn : (takeR 4 s).1 = none) :
  Calls Tryd.prog 74 #[.pointer (some ⟨c, 0, none⟩)] w fun e w' => e = .returned (vI 0) ∧ CurR w00 T c (.slice A bl.length cc) bl none w' := by
 refine calls_start 32 Tryd.func74 rfl Tryd.ntmps74 rfl fun a hF => ?_
 refine wK fun Kq1 hKq1 => ?_
 refine wR ?_
 refine wg hF rfl rfl rfl (gv_assign rfl (ev_const _ _)) fun a hF => ?_
 refine wN ?_
 refine tN (hKq1 _ _ ?_)
 refine wK fun Kq2 hKq2 => ?_
 refine wR ?_
 refine wg hF rfl rfl rfl (gv_move rfl (hF.t rfl)) fun a hF => ?_
 refine wpList_stp (stp_call hF (wanted_none rfl) rfl rfl Tryd.ok90 rfl (Evs.cons (hF.t rfl) (Evs.cons (ev_const _ _) Evs.nil)) (ctake_all (k := 4) hB hc hbl hR) fun e w h => ?_)
 obtain ⟨v, rfl, hR, hv⟩ := h
 rw [hn] at hv
 replace hR : CurR w00 T c (.slice A bl.length cc) bl none w := by rw [takeR_none hn] at hR; exact hR
 obtain ⟨i, hS⟩ := hR
 refine ⟨_, rfl, fun a hF => ?_⟩
 refine wg hF rfl rfl rfl (gv_assign rfl (hF.t rfl)) fun a hF => ?_
 refine wN ?_
 refine tN (hKq2 _ _ ?_)
 refine wK fun Kq3 hKq3 => ?_
 refine wK fun Kq4 hKq4 => ?_
 refine wR ?_
 refine wg hF rfl rfl rfl (gv_move rfl (hF.t rfl)) fun a hF => ?_
 refine wg hF rfl rfl rfl (gv_nilCheck rfl (hF.t rfl)) fun a hF => ?_
 refine wg hF rfl rfl rfl (gv_field (r := 2) rfl u143 rfl rfl z4 (by decide) (hF.t rfl)) fun a hF => ?_
 refine wg hF rfl rfl rfl (gv_load rfl u4 rfl (hF.t rfl) (cell_ix (j := 2) (hS.cell (k := 0) rfl (rfl)) (by omega))) fun a hF => ?_
 refine wN ?_
 refine tN (hKq4 _ _ ?_)
 refine wp_cond_true (hF.t rfl) ?_
 refine wK fun Kq5 hKq5 => ?_
 refine wR ?_
 refine wg hF rfl rfl rfl (gv_assign rfl (ev_const _ _)) fun a hF => ?_
 refine wN ?_
 refine tN (hKq5 _ _ ?_)
 refine wp_ret ?_
 refine then_ret ?_
 refine ret1 (fn := Tryd.f74) (t := 2) hF rfl rfl ?_
 exact ⟨rfl, i, hS⟩
theorem cu32_some {w00 w : World} {T : List Ent} {c cc : Nat} {A : Option Addr} {bl : List UInt8} {s : RSt} (hT : ∀ e ∈ T, e.nw = true) (hB : SRd w00 T (.slice A bl.length cc) (bl.map vB)) (hc : bl.length ≤ cc) (hbl : bl.length ≤ 1152921504606846976) (hR : CurR w00 T c (.slice A bl.length cc) bl s w) {ys : List UInt8} (hn : (takeR 4 s).1 = some ys) :
  Calls Tryd.prog 74 #[.pointer (some ⟨c, 0, none⟩)] w fun e w' => e = .returned (vI (u32A ys 4).toNat) ∧ CurR w00 T c (.slice A bl.length cc) bl (takeR 4 s).2 w' := by
 refine calls_start 32 Tryd.func74 rfl Tryd.ntmps74 rfl fun a hF => ?_
 refine wK fun Kq1 hKq1 => ?_
 refine wR ?_
 refine wg hF rfl rfl rfl (gv_assign rfl (ev_const _ _)) fun a hF => ?_
 refine wN ?_
 refine tN (hKq1 _ _ ?_)
 refine wK fun Kq2 hKq2 => ?_
 refine wR ?_
 refine wg hF rfl rfl rfl (gv_move rfl (hF.t rfl)) fun a hF => ?_
 refine wpList_stp (stp_call hF (wanted_none rfl) rfl rfl Tryd.ok90 rfl (Evs.cons (hF.t rfl) (Evs.cons (ev_const _ _) Evs.nil)) (ctake_all (k := 4) hB hc hbl hR) fun e w h => ?_)
 obtain ⟨v, rfl, hR, hv⟩ := h
 rw [hn] at hv
 obtain ⟨zs, hzs⟩ := takeR_snd hn
 rw [hzs] at hR
 obtain ⟨i, hi, hzi, hS⟩ := hR
 simp only [Option.getD_some] at hv
 have hyl := takeR_len hn
 obtain ⟨A1, c1, rfl, _, _, hcell⟩ := (hv w _ hS (nw_cons rfl hT) (fun e he => List.mem_cons_of_mem _ he)).isB
 obtain ⟨b1, o1, rfl, _⟩ := hcell (by omega)
 refine ⟨_, rfl, fun a hF => ?_⟩
 clear hcell
 refine wg hF rfl rfl rfl (gv_assign rfl (hF.t rfl)) fun a hF => ?_
 refine wN ?_
 refine tN (hKq2 _ _ ?_)
 refine wK fun Kq3 hKq3 => ?_
 refine wK fun Kq4 hKq4 => ?_
 refine wR ?_
 refine wg hF rfl rfl rfl (gv_move rfl (hF.t rfl)) fun a hF => ?_
 refine wg hF rfl rfl rfl (gv_nilCheck rfl (hF.t rfl)) fun a hF => ?_
 refine wg hF rfl rfl rfl (gv_field (r := 2) rfl u143 rfl rfl z4 (by decide) (hF.t rfl)) fun a hF => ?_
 refine wg hF rfl rfl rfl (gv_load rfl u4 rfl (hF.t rfl) (cell_ix (j := 2) (hS.cell (k := 0) rfl (rfl)) (by omega))) fun a hF => ?_
 refine wN ?_
 refine tN (hKq4 _ _ ?_)
 refine wp_cond_false (hF.t rfl) ?_
 refine wp_skip ?_
 refine tN (hKq3 _ _ ?_)
 refine wK fun Kq5 hKq5 => ?_
 have hy0 := (ys.getD 0 0).toNat_lt
 have hy1 := (ys.getD 1 0).toNat_lt
 have hy2 := (ys.getD 2 0).toNat_lt
 have hy3 := (ys.getD 3 0).toNat_lt
 refine Fw.wp_region_draw (by kernel_rfl) fun w hx => ?_
 replace hS := hS.ext hx
 clear hx
 refine run_head0 (n := 23) _ hF (by kernel_rfl) rfl ?_
 refine dg hF rfl rfl rfl rfl (fun w hx => gv_move rfl (hF.t rfl)) fun a hF => ?_
 refine dg hF rfl rfl rfl rfl (fun w hx => gv_indexSl (q := 0) rfl u22 z5 (hF.t rfl) rfl (by omega)) fun a hF => ?_
 refine dg hF rfl rfl rfl rfl (fun w hx => gv_load rfl u5 rfl (hF.t rfl) (cell_ix ((hv _ _ (hS.ext hx) (nw_cons rfl hT) (fun e he => List.mem_cons_of_mem _ he)).cellB 0 (by omega)) (by omega))) fun a hF => ?_
 refine dg hF rfl rfl rfl rfl (fun w hx => gv_conv_b_i rfl u5 u3 (hF.t rfl)) fun a hF => ?_
 refine dg hF rfl rfl rfl rfl (fun w hx => gv_nmul (n := 16777216) rfl (hF.t rfl) rfl (by omega)) fun a hF => ?_
 refine dg hF rfl rfl rfl rfl (fun w hx => gv_move rfl (hF.t rfl)) fun a hF => ?_
 refine dg hF rfl rfl rfl rfl (fun w hx => gv_indexSl (q := 1) rfl u22 z5 (hF.t rfl) rfl (by omega)) fun a hF => ?_
 refine dg hF rfl rfl rfl rfl (fun w hx => gv_load rfl u5 rfl (hF.t rfl) (cell_ix ((hv _ _ (hS.ext hx) (nw_cons rfl hT) (fun e he => List.mem_cons_of_mem _ he)).cellB 1 (by omega)) (by omega))) fun a hF => ?_
 refine dg hF rfl rfl rfl rfl (fun w hx => gv_conv_b_i rfl u5 u3 (hF.t rfl)) fun a hF => ?_
 refine dg hF rfl rfl rfl rfl (fun w hx => gv_nmul (n := 65536) rfl (hF.t rfl) rfl (by omega)) fun a hF => ?_
 refine dg hF rfl rfl rfl rfl (fun w hx => gv_nadd rfl (hF.t rfl) (hF.t rfl) (by omega)) fun a hF => ?_
 refine dg hF rfl rfl rfl rfl (fun w hx => gv_move rfl (hF.t rfl)) fun a hF => ?_
 refine dg hF rfl rfl rfl rfl (fun w hx => gv_indexSl (q := 2) rfl u22 z5 (hF.t rfl) rfl (by omega)) fun a hF => ?_
 refine dg hF rfl rfl rfl rfl (fun w hx => gv_load rfl u5 rfl (hF.t rfl) (cell_ix ((hv _ _ (hS.ext hx) (nw_cons rfl hT) (fun e he => List.mem_cons_of_mem _ he)).cellB 2 (by omega)) (by omega))) fun a hF => ?_
 refine dg hF rfl rfl rfl rfl (fun w hx => gv_conv_b_i rfl u5 u3 (hF.t rfl)) fun a hF => ?_
 refine dg hF rfl rfl rfl rfl (fun w hx => gv_nmul (n := 256) rfl (hF.t rfl) rfl (by omega)) fun a hF => ?_
 refine dg hF rfl rfl rfl rfl (fun w hx => gv_nadd rfl (hF.t rfl) (hF.t rfl) (by omega)) fun a hF => ?_
 refine dg hF rfl rfl rfl rfl (fun w hx => gv_move rfl (hF.t rfl)) fun a hF => ?_
 refine dg hF rfl rfl rfl rfl (fun w hx => gv_indexSl (q := 3) rfl u22 z5 (hF.t rfl) rfl (by omega)) fun a hF => ?_
 refine dg hF rfl rfl rfl rfl (fun w hx => gv_load rfl u5 rfl (hF.t rfl) (cell_ix ((hv _ _ (hS.ext hx) (nw_cons rfl hT) (fun e he => List.mem_cons_of_mem _ he)).cellB 3 (by omega)) (by omega))) fun a hF => ?_
 refine dg hF rfl rfl rfl rfl (fun w hx => gv_conv_b_i rfl u5 u3 (hF.t rfl)) fun a hF => ?_
 refine dg hF rfl rfl rfl rfl (fun w hx => gv_nadd rfl (hF.t rfl) (hF.t rfl) (by omega)) fun a hF => ?_
 refine dg hF rfl rfl rfl rfl (fun w hx => gv_assign rfl (hF.t rfl)) fun a hF => ?_
 refine dw_nil fun a w hA hx => ?_
 replace hF := hA _ hF
 replace hS := hS.ext hx
 clear hA hx
 refine run_done (by decide) ?_
 refine tN (hKq5 _ _ ?_)
 refine wp_ret ?_
 refine ret1 (fn := Tryd.f74) (t := 2) hF rfl rfl ?_
 rw [u32A_nat, hzs]
 exact ⟨rfl, i, hi, hzi, hS⟩
theorem cu32_all {w00 w : World} {T : List Ent} {c cc : Nat} {A : Option Addr} {bl : List UInt8} {s : RSt} (hT : ∀ e ∈ T, e.nw = true) (hB : SRd w00 T (.slice A bl.length cc) (bl.map vB)) (hc : bl.length ≤ cc) (hbl : bl.length ≤ 1152921504606846976) (hR : CurR w00 T c (.slice A bl.length cc) bl s w) :
  Calls Tryd.prog 74 #[.pointer (some ⟨c, 0, none⟩)] w fun e w' => e = .returned (vI (u32R s).1.toNat) ∧ CurR w00 T c (.slice A bl.length cc) bl (u32R s).2 w' := by
 cases hn : (takeR 4 s).1 with
 | none => refine (cu32_none hT hB hc hbl hR hn).mono fun e w' ⟨he, h⟩ => ⟨by rw [u32R_none' hn]; exact he, by rw [u32R_snd, takeR_none hn]; exact h⟩
 | some ys => refine (cu32_some hT hB hc hbl hR hn).mono fun e w' ⟨he, h⟩ => ⟨by rw [u32R_some hn]; exact he, by rw [u32R_snd]; exact h⟩
end Go.Proofs.YtfhalnobaeogkaaDoor
set_option linter.unusedVariables false
set_option linter.unusedSimpArgs false
namespace Go.Fw
open Go Go.RowKit
section
variable {P : Program} {N : Nat} {a : Act} {w w0 : World} {m : List (Nat × Value)} {H : List Ent} {o : Oper} {ops : Array Oper} {K : Act → World → Prop} {Q : Exit → Act → World → Prop} {x y : Operand} {t e : TypeId} {z : Value}
theorem stp_appGrow {b1 o1 c d : Nat} {l ml : List UInt8} {v : Value} (hF : Fr N a m) (hw : Region.wanted o (yielded ops a.tmps) = true) (hd : o.dst = some d) (hN : Nat.blt d N = true)
  (ho : o.op = .call { callee := .builtin .append, args := #[x, y], argTypes := #[t, t] }) (ht : P.underlying t = some (.slice e)) (hty : Ty P e z 1 1) (hzc : z.cells.size = 1)
  (hx : a.eval x = .slice (some ⟨b1, o1, none⟩) l.length c) (hy : a.eval y = v) (hS : St w0 w H) (hl : Rd w (.slice (some ⟨b1, o1, none⟩) l.length c) (l.map vB)) (hr : Rd w v (ml.map vB)) (hg : c < l.length + ml.length) (hn : l.length + ml.length ≤ 140737488355328)
  (h : ∀ b pad a' w', Fr N a' ((d, .slice (some ⟨b, 0, none⟩) (l ++ ml).length ((l ++ ml).length + pad.length)) :: m) → (l ++ ml).length + pad.length ≤ 9223372036854775807 →
   St w0 w' (⟨true, some b, blk e ((l ++ ml).map vB ++ pad)⟩ :: H) → K a' w') : Stp P ops Q o a w K := by
 obtain ⟨i, hi, h2, h3, h4⟩ := hty.get
 obtain ⟨A1, c1, hv1, hc1, _, hd1⟩ := hl.isB
 injection hv1 with hA1 _ hcc
 subst hA1
 subst hcc
 obtain ⟨A2, c2, rfl, _, _, hc2⟩ := hr.isB
 obtain ⟨b2, o2, rfl, hd2⟩ := hc2 (by omega)
 have hget : ∀ (l : List UInt8) (j : Nat) (u : Value), (l.map vB)[j]? = some u → j < l.length ∧ u = vB (l.getD j 0) := fun l j u hu => by
  rw [List.getElem?_map] at hu
  obtain ⟨q, hq, rfl⟩ := Option.map_eq_some_iff.1 hu
  exact ⟨(List.getElem?_eq_some_iff.1 hq).1, by rw [List.getD_eq_getElem?_getD, hq]; rfl⟩
 have hr := run_append_grow (P := P) w t o.type e i z ht hi h2 ⟨b1, o1, none⟩ l.length c (l.map vB) (by simp [h3]) (fun j u hu => by
   obtain ⟨g1, rfl⟩ := hget l j u hu
   obtain ⟨b3, o3, hA, hd3⟩ := hd1 (by omega)
   injection hA with hA
   injection hA with hb ho3
   subst hb ho3
   rw [add_lit]; exact hd3 j g1) ⟨b2, o2, none⟩ ml.length c2 (ml.map vB) (by simp [h3]) (fun j u hu => by
   obtain ⟨g1, rfl⟩ := hget ml j u hu
   rw [add_lit]; exact hd2 j g1) hg (by omega) (growslice_fits (by omega) (by rw [h4]; omega))
 have hge := grownCap_ge w (l.length + ml.length) c e
 have hle := grownCap_le_maxLen w (l.length + ml.length) c e (by simp only [maxLen]; omega)
 obtain ⟨Z, hZ⟩ : ∃ Z : Array Value, Builtin.zeroCells z.cells (grownCap w (l.length + ml.length) c e - (l.length + ml.length)) = Z := ⟨_, rfl⟩
 have hZl : Z.toList.length = grownCap w (l.length + ml.length) c e - (l.length + ml.length) := by rw [← hZ, Array.length_toList, size_zeroCells, hzc]; omega
 rw [hZ] at hr
 have hlen : (l ++ ml).length = l.length + ml.length := List.length_append
 have hcap : (l ++ ml).length + Z.toList.length = grownCap w (l.length + ml.length) c e := by rw [hlen, hZl]; omega
 refine stp_val hF hw hd hN (run_appendOp ho hx hy hr) fun a' hF' => h w.heap.size Z.toList a' _ (by rw [hcap, hlen]; exact hF') (by rw [hcap]; simpa [maxLen] using hle) ?_
 refine hS.float (w' := w.drew.alloc _) ⟨rfl, rfl, rfl, by simp, fun j hj => heap_alloc_old w.drew _ hj⟩ (Nat.le_refl _) ((heap_alloc_new w.drew _).trans ?_)
 simp [blk]
theorem stp_appRoom {g d k : Nat} {l ml : List UInt8} {pre pad : List Value} {v : Value} (hF : Fr N a m) (hw : Region.wanted o (yielded ops a.tmps) = true) (hd : o.dst = some d) (hN : Nat.blt d N = true)
  (ho : o.op = .call { callee := .builtin .append, args := #[x, y], argTypes := #[t, t] }) (ht : P.underlying t = some (.slice e)) (hty : Ty P e z 1 1) (hzc : z.cells.size = 1)
  (hx : a.eval x = .slice (some ⟨g, pre.length, none⟩) l.length (l.length + pad.length)) (hy : a.eval y = v) (hS : St w0 w H) (hk : H[k]? = some ⟨true, some g, blk e (pre ++ (l.map vB ++ pad))⟩) (hr : Rd w v (ml.map vB)) (hp : 0 < ml.length) (hroom : ml.length ≤ pad.length)
  (h : ∀ a' w', Fr N a' ((d, .slice (some ⟨g, pre.length, none⟩) (l ++ ml).length ((l ++ ml).length + (pad.drop ml.length).length)) :: m) →
   St w0 w' (H.set k ⟨true, some g, blk e (pre ++ ((l ++ ml).map vB ++ pad.drop ml.length))⟩) → K a' w') : Stp P ops Q o a w K := by
 obtain ⟨i, hi, h2, h3, h4⟩ := hty.get
 obtain ⟨A2, c2, rfl, _, _, hc2⟩ := hr.isB
 obtain ⟨b2, o2, rfl, hd2⟩ := hc2 hp
 have hb := hS.has _ (List.mem_of_getElem? hk) g rfl
 have hget : ∀ (j : Nat) (u : Value), (ml.map vB)[j]? = some u → w.cell? ((⟨b2, o2, none⟩ : Addr).add j) = some u := fun j u hu => by
  rw [List.getElem?_map] at hu
  obtain ⟨q, hq, rfl⟩ := Option.map_eq_some_iff.1 hu
  have := hd2 j (List.getElem?_eq_some_iff.1 hq).1
  rw [add_lit, this, List.getD_eq_getElem?_getD, hq]; rfl
 have hf := run_firstCells_some (P := P) w i.size ml.length ⟨b2, o2, none⟩ ml.length c2 (ml.map vB) (by simp [h3]) hget
 have hlen : (ml.map vB).length = ml.length := List.length_map ..
 have hst := run_storeCells_at P g (pre.length + l.length) e (ml.map vB) 0 (pre ++ (l.map vB ++ pad)).toArray w hb (by rw [hlen]; simp; omega) (one_B _)
 simp only [Nat.add_zero] at hst
 rw [hlen] at hst
 have hcs : ((pre ++ (l.map vB ++ pad)).toArray.toList.take (pre.length + l.length) ++ ml.map vB ++ (pre ++ (l.map vB ++ pad)).toArray.toList.drop (pre.length + l.length + ml.length)) = pre ++ ((l ++ ml).map vB ++ pad.drop ml.length) := by
  have e1 : (pre ++ (l.map vB ++ pad)).take (pre.length + l.length) = pre ++ l.map vB := by
   rw [← List.append_assoc, List.take_left' (by simp)]
  have e2 : (pre ++ (l.map vB ++ pad)).drop (pre.length + l.length + ml.length) = pad.drop ml.length := by
   rw [← List.append_assoc, ← List.drop_drop, List.drop_left' (by simp)]
  simp only [List.toList_toArray]
  rw [e1, e2, List.map_append, List.append_assoc, List.append_assoc, List.append_assoc]
 rw [hcs] at hst
 have hroom' : l.length + ml.length ≤ l.length + pad.length := by omega
 have hrun : (Builtin.append_ #[t, t] o.type #[.slice (some ⟨g, pre.length, none⟩) l.length (l.length + pad.length), .slice (some ⟨b2, o2, none⟩) ml.length c2]).run P w = .ok (.slice (some ⟨g, pre.length, none⟩) (l ++ ml).length ((l ++ ml).length + (pad.drop ml.length).length)) (w.setRow g (pre ++ ((l ++ ml).map vB ++ pad.drop ml.length)).toArray) := by
  rw [List.length_append, List.length_drop, show l.length + ml.length + (pad.length - ml.length) = l.length + pad.length by omega]
  simp only [h3, Nat.mul_one] at hf
  simp [Builtin.append_, run_underlying ht, sizeOf, typeInfo, hi, Builtin.lenOf, h3, hroom', hroom, Nat.not_lt.2 hroom, hf, Addr.add_lit, hst]
 refine stp_val hF hw hd hN (run_appendOp ho hx hy hrun) fun a' hF' => h a' _ hF' (hS.setRow hk)
end
end Go.Fw
set_option linter.unusedVariables false
set_option linter.unusedSimpArgs false
namespace Go.Proofs.YtfhalnobaeogkaaDoor
open Go Go.RowKit Go.Fw
theorem z40 : (Tryd.prog.info? 40).map (·.size) = some 3 := by kernel_rfl
theorem Tryd.zv40 : (Tryd.prog.info? 40).map (·.zero) = some (some (Value.agg ([Value.slice none 0 0] ++ [Value.slice none 0 0] ++ [Value.slice none 0 0]).toArray)) := by kernel_rfl
theorem Tryd.ok52 : CallOk Tryd.prog 52 := ⟨_, Tryd.func52, by kernel_rfl, by kernel_rfl⟩
abbrev nokb : Ent := ⟨true, none, blkB 129 []⟩
theorem new_st {kv cv : Value} {kl cl : List UInt8} {w0 : World} (hkv : Rd w0 kv (kl.map vB)) (hcv : Rd w0 cv (cl.map vB)) (hk : kl.length = 16) (hc : cl.length = 16) :
  Calls Tryd.prog 52 #[kv, cv] w0 fun e w' => ∃ b, e = .returned (.tuple #[.pointer (some ⟨b, 0, none⟩), .int .i64 0]) ∧ St w0 w' [⟨true, some b, strm (keys kl) cl (.slice none 0 0)⟩, nokb] :=
 (new_ok hkv hcv hk hc).mono fun e w' ⟨b, he, h⟩ => ⟨b, he, (h.addNil (blkB 129 [])).move (k := 1) rfl⟩
theorem nil_left {w0 : World} : SRd w0 [nokb] (.slice none 0 0) (([] : List UInt8).map vB) := SRd.nil
def kbs (c : UInt8) : Nat → List UInt8
 | 0 => List.replicate 64 0
 | i + 1 => (kbs c i).set i (c + UInt8.ofNat (i * i))
theorem kbs_len (c : UInt8) : ∀ i, (kbs c i).length = 64
 | 0 => List.length_replicate
 | i + 1 => by rw [kbs, List.length_set, kbs_len c i]
def kKey (c : UInt8) : List UInt8 := (kbs c 64).take 16
def kIv (c : UInt8) : List UInt8 := ((kbs c 64).take 32).drop 16
def kMac (c : UInt8) : List UInt8 := (kbs c 64).drop 32
theorem kKey_len (c : UInt8) : (kKey c).length = 16 := by rw [kKey, List.length_take, kbs_len]; rfl
theorem kIv_len (c : UInt8) : (kIv c).length = 16 := by rw [kIv, List.length_drop, List.length_take, kbs_len]; rfl
theorem kMac_len (c : UInt8) : (kMac c).length = 32 := by rw [kMac, List.length_drop, kbs_len]
abbrev keyV (b : Nat) : Array Value := #[.slice (some ⟨b, 0, none⟩) 16 64, cut3V (some ⟨b, 0, none⟩) 16 32 64, cutV (some ⟨b, 0, none⟩) 64 64 32]
theorem key_srd {w0 : World} {T : List Ent} {b : Nat} {c : UInt8} (h : ⟨true, some b, blkB 5 (kbs c 64)⟩ ∈ T) :
  SRd w0 T (.slice (some ⟨b, 0, none⟩) 16 64) ((kKey c).map vB) ∧ SRd w0 T (cut3V (some ⟨b, 0, none⟩) 16 32 64) ((kIv c).map vB) ∧ SRd w0 T (cutV (some ⟨b, 0, none⟩) 64 64 32) ((kMac c).map vB) := by
 have h0 := SRd.arr (w0 := w0) h (kbs_len c 64) (by omega)
 refine ⟨?_, ?_, ?_⟩
 ·
  have := h0.cutHi (hi := 16) (by omega)
  rwa [← List.map_take] at this
 ·
  have := SRd.cut3 (l := 16) (h := 32) (mx := 64) h0 (by omega) (by omega) (by omega) (by omega)
  rwa [← List.map_take, ← List.map_drop] at this
 ·
  have := h0.cutLo (lo := 32) (by omega)
  rwa [← List.map_drop] at this
theorem build_keys (b : Nat) (w : World) : (Instr.build 40 #[(0, .slice (some ⟨b, 0, none⟩) 16 64), (1, cut3V (some ⟨b, 0, none⟩) 16 32 64), (2, cutV (some ⟨b, 0, none⟩) 64 64 32)]).run Tryd.prog w = .ok (.agg (keyV b)) w := by
 refine run_buildStr (pl := [(0, .slice (some ⟨b, 0, none⟩) 16 64), (1, cut3V (some ⟨b, 0, none⟩) 16 32 64), (2, cutV (some ⟨b, 0, none⟩) 64 64 32)]) (places := #[(0, 1), (1, 1), (2, 1)]) u40 Tryd.zv40 rfl (fun w => ?_) ?_
 ·
  simp [Fw.run_sizeOf z22]
 ·
  rfl
theorem keys_ok {c : UInt8} {w0 : World} :
  Calls Tryd.prog 20 #[vB c] w0 fun e w' => ∃ b, e = .returned (.agg (keyV b)) ∧ St w0 w' [⟨true, some b, blkB 5 (kbs c 64)⟩] := by
 refine calls_start 28 Tryd.func20 rfl Tryd.ntmps20 rfl fun a hF => ?_
 have hS := St.refl w0
 refine wK fun Kq1 hKq1 => ?_
 refine wR ?_
 refine wpList_stp (stp_alloc hF (wanted_none rfl) rfl rfl rfl Tryd.zv40 rfl hS fun kk a w hF hS => ?_)
 refine wN ?_
 refine tN (hKq1 _ _ ?_)
 refine wK fun Kq2 hKq2 => ?_
 refine wR ?_
 refine wpList_stp (stp_make (n := 64) hF (wanted_none rfl) rfl rfl rfl u22 Tryd.ty5 rfl rfl rfl (by omega) (by omega) hS fun b a w hF hS => ?_)
 refine wg hF rfl rfl rfl (gv_assign rfl (hF.t rfl)) fun a hF => ?_
 refine wN ?_
 refine tN (hKq2 _ _ ?_)
 refine wK fun Kq3 hKq3 => ?_
 refine wK fun Kq4 hKq4 => ?_
 refine wR ?_
 refine wg hF rfl rfl rfl (gv_move rfl (hF.t rfl)) fun a hF => ?_
 refine wg hF rfl rfl rfl (gv_len rfl u22 (hF.t rfl)) fun a hF => ?_
 refine wg hF rfl rfl rfl (gv_move rfl (ev_const _ _)) fun a hF => ?_
 refine wN ?_
 refine tN (hKq4 _ _ ?_)
 refine wp_block ?_
 simp only [rep_vB] at hS
 refine wp_loop_n (fun n a w => ∃ i, i ≤ 64 ∧ n = 64 - i ∧ Fr 28 a [(0, vB c), (2, .pointer (some ⟨kk, 0, none⟩)), (3, .slice (some ⟨b, 0, none⟩) 64 64), (7, vI 64), (8, vI i)] ∧ St w0 w [⟨true, some b, blkB 5 (kbs c i)⟩, ⟨true, some kk, blk 40 [.slice none 0 0, .slice none 0 0, .slice none 0 0]⟩]) 64 ⟨0, by omega, by omega, hF.sub ⟨rfl, rfl, rfl, rfl, rfl, trivial⟩, hS⟩ ?_
 rintro n a w ⟨i, hi, hn, hF, hS⟩
 refine wK fun Kq5 hKq5 => ?_
 refine wR ?_
 refine wg hF rfl rfl rfl (gv_lss rfl (hF.t rfl) (hF.t rfl)) fun a hF => ?_
 refine wN ?_
 refine tN (hKq5 _ _ ?_)
 refine wK fun Kq6 hKq6 => ?_
 refine cond_dec (hF.t rfl) (fun h9 => ?_) (fun h9 => ?_)
 ·
  refine wp_skip ?_
  refine tN (hKq6 _ _ ?_)
  refine wK fun Kq7 hKq7 => ?_
  refine wp_block ?_
  refine wK fun Kq8 hKq8 => ?_
  refine wR ?_
  refine wg hF rfl rfl rfl (gv_move rfl (hF.t rfl)) fun a hF => ?_
  refine wg hF rfl rfl rfl (gv_assign rfl (hF.t rfl)) fun a hF => ?_
  refine wN ?_
  refine tN (hKq8 _ _ ?_)
  refine wR ?_
  refine wg hF rfl rfl rfl (gv_move rfl (hF.t rfl)) fun a hF => ?_
  refine wg hF rfl rfl rfl (gv_move rfl (hF.t rfl)) fun a hF => ?_
  refine wg hF rfl rfl rfl (gv_move rfl (hF.t rfl)) fun a hF => ?_
  refine wg hF rfl rfl rfl (gv_move rfl (hF.t rfl)) fun a hF => ?_
  refine wg hF rfl rfl rfl (gv_move rfl (hF.t rfl)) fun a hF => ?_
  refine wg hF rfl rfl rfl (gv_nmul rfl (hF.t rfl) (hF.t rfl) (by have := Nat.mul_le_mul hi hi; omega)) fun a hF => ?_
  refine wg hF rfl rfl rfl (gv_conv_i_b rfl u3 u5 (hF.t rfl)) fun a hF => ?_
  refine wg hF rfl rfl rfl (gv_b_add rfl (hF.t rfl) (hF.t rfl)) fun a hF => ?_
  refine wg hF rfl rfl rfl (gv_indexSl rfl u22 z5 (hF.t rfl) (hF.t rfl) (by omega)) fun a hF => ?_
  refine wpList_stp (stp_storeB (i) hF (wanted_none rfl) rfl rfl z5 (hF.t rfl) (by omega) (hF.t rfl) hS (k := 0) rfl (by rw [kbs_len]; omega) fun w hS => ?_)
  refine wN ?_
  refine block_normal ?_
  refine tN (hKq7 _ _ ?_)
  refine wR ?_
  refine wg hF rfl rfl rfl (gv_nadd (n := 1) rfl (hF.t rfl) rfl (by omega)) fun a hF => ?_
  refine wg hF rfl rfl rfl (gv_move rfl (hF.t rfl)) fun a hF => ?_
  refine wN ?_
  refine then_normal ?_
  exact ⟨n - 1, by omega, i + 1, by omega, by omega, hF.sub ⟨rfl, rfl, rfl, rfl, rfl, trivial⟩, hS⟩
 ·
  refine wp_exit ?_
  refine then_exit ?_
  refine then_exit ?_
  refine block_exit ?_
  refine tN (hKq3 _ _ ?_)
  refine wK fun Kq9 hKq9 => ?_
  obtain rfl : i = 64 := by omega
  refine Fw.wp_region_draw (by kernel_rfl) fun w hx => ?_
  replace hS := hS.ext hx
  clear hx
  refine run_head0 (n := 7) _ hF (by kernel_rfl) rfl ?_
  refine dg hF rfl rfl rfl rfl (fun w hx => gv_move rfl (hF.t rfl)) fun a hF => ?_
  refine dg hF rfl rfl rfl rfl (fun w hx => gv_sliceHi (hi := 16) rfl u22 z5 (hF.t rfl) rfl (by omega)) fun a hF => ?_
  refine dg hF rfl rfl rfl rfl (fun w hx => gv_move rfl (hF.t rfl)) fun a hF => ?_
  refine dg hF rfl rfl rfl rfl (fun w hx => gv_slice2 (l := 16) (h := 32) rfl u22 z5 (hF.t rfl) rfl rfl (by omega) (by omega)) fun a hF => ?_
  refine dg hF rfl rfl rfl rfl (fun w hx => gv_move rfl (hF.t rfl)) fun a hF => ?_
  refine dg hF rfl rfl rfl rfl (fun w hx => gv_sliceLo (lo := 32) rfl u22 z5 (hF.t rfl) rfl (by omega)) fun a hF => ?_
  refine dg hF rfl rfl rfl rfl (fun w hx => gv_build (v := .agg (keyV b)) rfl (EvP.map (EvP.cons (hF.t rfl) (EvP.cons (hF.t rfl) (EvP.cons (hF.t rfl) EvP.nil)))) (build_keys _ _)) fun a hF => ?_
  refine dw_nil fun a w hA hx => ?_
  replace hF := hA _ hF
  replace hS := hS.ext hx
  clear hA hx
  refine run_stp (by kernel_rfl) rfl (stp_storeAll hF (wanted_none rfl) rfl rfl (z40.trans (congrArg some (by rfl))) (hF.t rfl) (hF.t rfl) (fun u hu => by simp [keyV] at hu; rcases hu with rfl | rfl | rfl <;> rfl) hS (k := 1) rfl (by rfl) fun w hS => ?_)
  refine run_done (by decide) ?_
  refine tN (hKq9 _ _ ?_)
  refine wp_ret ?_
  refine retCell (fn := Tryd.f20) (vs := (keyV b).toList) hF rfl u40 rfl (z40.trans (congrArg some (by rfl))) rfl hS (k := 1) rfl ⟨b, rfl, hS.drop2 rfl⟩
theorem hand_ok {w00 w : World} {T : List Ent} {b n : Nat} {tt : TypeId} {seq : UInt32} {st mac k1 k2 k3 : Value} {rest : List Value} {kl il ml : List UInt8} (hT : ∀ e ∈ T, e.nw = true) (hS : St w00 w (⟨true, some b, blk tt (vW seq :: st :: mac :: vI n :: rest)⟩ :: T)) (h1 : SRd w00 T k1 (kl.map vB)) (h2 : SRd w00 T k2 (il.map vB)) (h3 : SRd w00 T k3 (ml.map vB)) (l1 : kl.length = 16) (l2 : il.length = 16) (l3 : ml.length = 32) :
  Calls Tryd.prog 19 #[.pointer (some ⟨b, 0, none⟩), .agg #[k1, k2, k3]] w fun e w' => e = .returned (.int .i64 0) ∧ ∃ s m mp, 32 + mp.length ≤ 9223372036854775807 ∧
   St w00 w' (⟨true, some b, blk tt (vW seq :: .pointer (some ⟨s, 0, none⟩) :: .slice (some ⟨m, 0, none⟩) 32 (32 + mp.length) :: vI 0 :: rest)⟩ :: ⟨true, some m, blk 5 (ml.map vB ++ mp)⟩ :: ⟨true, some s, strm (keys kl) il (.slice none 0 0)⟩ :: nokb :: T) := by
 have hT0 := nw_cons (e := ⟨true, some b, blk tt (vW seq :: st :: mac :: vI n :: rest)⟩) rfl hT
 obtain ⟨A1, c1, rfl, _, _, _⟩ := (h1 w _ hS hT0 (fun e he => List.mem_cons_of_mem _ he)).isB
 obtain ⟨A2, c2, rfl, _, _, _⟩ := (h2 w _ hS hT0 (fun e he => List.mem_cons_of_mem _ he)).isB
 obtain ⟨A3, c3, rfl, _, _, _⟩ := (h3 w _ hS hT0 (fun e he => List.mem_cons_of_mem _ he)).isB
 clear hT0
 refine calls_start 40 Tryd.func19 rfl Tryd.ntmps19 rfl fun a hF => ?_
 refine wK fun Kq1 hKq1 => ?_
 refine wR ?_
 refine wpList_stp (stp_box hF (wanted_none rfl) rfl rfl rfl (hF.t rfl) rfl hS fun kx a w hF hS => ?_)
 refine wg hF rfl rfl rfl (gv_assign rfl (ev_const _ _)) fun a hF => ?_
 refine wN ?_
 refine tN (hKq1 _ _ ?_)
 refine wK fun Kq2 hKq2 => ?_
 refine wR ?_
 refine wg hF rfl rfl rfl (gv_field (r := 0) rfl u40 rfl rfl z22 (by decide) (hF.t rfl)) fun a hF => ?_
 refine wg hF rfl rfl rfl (gv_load rfl u22 rfl (hF.t rfl) (cell_ix (j := 0) (hS.cell (k := 0) rfl (rfl)) (by omega))) fun a hF => ?_
 refine wg hF rfl rfl rfl (gv_field (r := 1) rfl u40 rfl rfl z22 (by decide) (hF.t rfl)) fun a hF => ?_
 refine wg hF rfl rfl rfl (gv_load rfl u22 rfl (hF.t rfl) (cell_ix (j := 1) (hS.cell (k := 0) rfl (rfl)) (by omega))) fun a hF => ?_
 refine wpList_stp (stp_call hF (wanted_none rfl) rfl rfl Tryd.ok52 rfl (Evs.cons (hF.t rfl) (Evs.cons (hF.t rfl) Evs.nil)) (new_st (h1 _ _ hS (nw_cons rfl (nw_cons rfl hT)) (fun e he => List.mem_cons_of_mem _ (List.mem_cons_of_mem _ he))) (h2 _ _ hS (nw_cons rfl (nw_cons rfl hT)) (fun e he => List.mem_cons_of_mem _ (List.mem_cons_of_mem _ he))) l1 l2) fun e w h => ?_)
 obtain ⟨s, rfl, hN⟩ := h
 refine ⟨_, rfl, fun a hF => ?_⟩
 replace hS := hS.join hN (nw_cons rfl (nw_cons rfl nw_nil))
 simp only [List.cons_append, List.nil_append] at hS
 clear hN
 refine wg hF rfl rfl rfl (gv_move rfl (hF.t rfl)) fun a hF => ?_
 refine wg hF rfl rfl rfl (gv_extract rfl (hF.t rfl) rfl) fun a hF => ?_
 refine wg hF rfl rfl rfl (gv_extract rfl (hF.t rfl) rfl) fun a hF => ?_
 refine wg hF rfl rfl rfl (gv_assign rfl (hF.t rfl)) fun a hF => ?_
 refine wg hF rfl rfl rfl (gv_assign rfl (hF.t rfl)) fun a hF => ?_
 refine wN ?_
 refine tN (hKq2 _ _ ?_)
 refine wK fun Kq3 hKq3 => ?_
 refine wK fun Kq4 hKq4 => ?_
 refine wR ?_
 refine wg hF rfl rfl rfl (gv_move rfl (hF.t rfl)) fun a hF => ?_
 refine wg hF rfl rfl rfl (gv_eqlNil rfl u102 (hF.t rfl) (ev_const _ _)) fun a hF => ?_
 refine wg hF rfl rfl rfl (gv_move rfl (hF.t rfl)) fun a hF => ?_
 refine wpList_stp (stp_gv hF (wanted_of hF rfl rfl (rfl)) rfl rfl (gv_move rfl (hF.t rfl)) fun a hF => ?_)
 refine wpList_stp (stp_gv hF (wanted_of hF rfl rfl (rfl)) rfl rfl (gv_neqF rfl (hF.t rfl) (ev_const _ _) (fun h => h rfl)) fun a hF => ?_)
 refine wg hF rfl rfl rfl (gv_pickF rfl (hF.t rfl) (hF.t rfl)) fun a hF => ?_
 refine wg hF rfl rfl rfl (gv_move rfl (hF.t rfl)) fun a hF => ?_
 refine wpList_stp (stp_gv hF (wanted_of hF rfl rfl (rfl)) rfl rfl (gv_field (r := 2) rfl u40 rfl rfl z22 (by decide) (hF.t rfl)) fun a hF => ?_)
 refine wpList_stp (stp_gv hF (wanted_of hF rfl rfl (rfl)) rfl rfl (gv_load rfl u22 rfl (hF.t rfl) (cell_ix (j := 2) (hS.cell (k := 2) rfl (rfl)) (by omega))) fun a hF => ?_)
 refine wpList_stp (stp_gv hF (wanted_of hF rfl rfl (rfl)) rfl rfl (gv_len rfl u22 (hF.t rfl)) fun a hF => ?_)
 refine wpList_stp (stp_gv hF (wanted_of hF rfl rfl (rfl)) rfl rfl (gv_neqF rfl (hF.t rfl) (ev_const _ _) (by omega)) fun a hF => ?_)
 refine wg hF rfl rfl rfl (gv_pickF rfl (hF.t rfl) (hF.t rfl)) fun a hF => ?_
 refine wN ?_
 refine tN (hKq4 _ _ ?_)
 refine wp_cond_false (hF.t rfl) ?_
 refine wp_skip ?_
 refine tN (hKq3 _ _ ?_)
 refine wK fun Kq5 hKq5 => ?_
 refine wR ?_
 refine wg hF rfl rfl rfl (gv_move rfl (hF.t rfl)) fun a hF => ?_
 refine wg hF rfl rfl rfl (gv_move rfl (hF.t rfl)) fun a hF => ?_
 refine wg hF rfl rfl rfl (gv_move rfl (hF.t rfl)) fun a hF => ?_
 refine wg hF rfl rfl rfl (gv_move rfl (hF.t rfl)) fun a hF => ?_
 refine wg hF rfl rfl rfl (gv_field (r := 2) rfl u40 rfl rfl z22 (by decide) (hF.t rfl)) fun a hF => ?_
 refine wg hF rfl rfl rfl (gv_load rfl u22 rfl (hF.t rfl) (cell_ix (j := 2) (hS.cell (k := 2) rfl (rfl)) (by omega))) fun a hF => ?_
 replace hS := hS.addNil (blk 5 (([] : List UInt8).map vB ++ []))
 refine wpList_stp (stp_appB (ob := none) (l := []) (pad := []) (k := 0) hF (wanted_none rfl) rfl rfl rfl u22 Tryd.ty5 rfl (ev_const _ _) (hF.t rfl) hS rfl (fun _ => ⟨rfl, rfl⟩) (by simp) (h3 _ _ hS (nw_cons rfl (nw_cons rfl (nw_cons rfl (nw_cons rfl (nw_cons rfl hT))))) (fun e he => List.mem_cons_of_mem _ (List.mem_cons_of_mem _ (List.mem_cons_of_mem _ (List.mem_cons_of_mem _ (List.mem_cons_of_mem _ he)))))) (by simp; omega) fun m mp a w hF mo mc hS => ?_)
 simp only [List.nil_append] at hF mo mc hS
 obtain ⟨m, rfl⟩ := own_some mo (by omega)
 rw [l3] at hF mc
 refine wg hF rfl rfl rfl (gv_nilCheck rfl (hF.t rfl)) fun a hF => ?_
 refine wg hF rfl rfl rfl (gv_field (r := 1) rfl u35 rfl rfl z33 (by decide) (hF.t rfl)) fun a hF => ?_
 refine wpList_stp (stp_storeAt (1) hF (wanted_none rfl) rfl rfl z33 (hF.t rfl) (by omega) (hF.t rfl) rfl hS (k := 4) rfl (by simp) fun w hS => ?_)
 refine wg hF rfl rfl rfl (gv_nilCheck rfl (hF.t rfl)) fun a hF => ?_
 refine wg hF rfl rfl rfl (gv_field (r := 2) rfl u35 rfl rfl z22 (by decide) (hF.t rfl)) fun a hF => ?_
 refine wpList_stp (stp_storeAt (2) hF (wanted_none rfl) rfl rfl z22 (hF.t rfl) (by omega) (hF.t rfl) rfl hS (k := 4) rfl (by simp) fun w hS => ?_)
 refine wg hF rfl rfl rfl (gv_nilCheck rfl (hF.t rfl)) fun a hF => ?_
 refine wg hF rfl rfl rfl (gv_field (r := 3) rfl u35 rfl rfl z3 (by decide) (hF.t rfl)) fun a hF => ?_
 refine wpList_stp (stp_storeAt (3) hF (wanted_none rfl) rfl rfl z3 (hF.t rfl) (by omega) (ev_const _ _) rfl hS (k := 4) rfl (by simp) fun w hS => ?_)
 refine wN ?_
 refine tN (hKq5 _ _ ?_)
 refine wK fun Kq6 hKq6 => ?_
 refine wR ?_
 refine wg hF rfl rfl rfl (gv_assign rfl (ev_const _ _)) fun a hF => ?_
 refine wN ?_
 refine tN (hKq6 _ _ ?_)
 refine wp_ret ?_
 refine ret1 (fn := Tryd.f19) (t := 4) hF rfl rfl ?_
 replace hS := hS.move (k := 3) rfl
 replace hS := (hS.drop rfl).move (k := 3) rfl
 exact ⟨rfl, s, m, mp, mc, hS⟩
end Go.Proofs.YtfhalnobaeogkaaDoor
set_option linter.unusedVariables false
set_option linter.unusedSimpArgs false
namespace Go.Proofs.YtfhalnobaeogkaaDoor
open Go Go.RowKit Go.Fw
theorem Tryd.ok46 : CallOk Tryd.prog 46 := ⟨_, Tryd.func46, by kernel_rfl, by kernel_rfl⟩
theorem Tryd.ok47 : CallOk Tryd.prog 47 := ⟨_, Tryd.func47, by kernel_rfl, by kernel_rfl⟩
def pktK (seq : UInt32) (pl dl K C L ml : List UInt8) : List UInt8 := outT K (C, L) (pktF seq pl dl 16) (pktF seq pl dl 16).length ++ codeF seq ml (pktF seq pl dl 16)
def stays (w00 : World) (E1 E2 : Ent) (T : List Ent) (w : World) : Prop := ∃ H, St w00 w H ∧ (∀ e ∈ H, e.nw = true) ∧ E1 ∈ H ∧ E2 ∈ H ∧ ∀ e ∈ T, e ∈ H
theorem stays.ext {w00 w w' : World} {E1 E2 : Ent} {T : List Ent} (h : stays w00 E1 E2 T w) (hx : Ext w w') : stays w00 E1 E2 T w' := by
 obtain ⟨H, h1, h2⟩ := h
 exact ⟨H, h1.ext hx, h2⟩
theorem stays.cell {w00 w : World} {E2 : Ent} {T : List Ent} {b i : Nat} {nw : Bool} {t : TypeId} {cs : List Value} {v : Value} (h : stays w00 ⟨nw, some b, blk t cs⟩ E2 T w) (hv : cs[i]? = some v) : w.cell? ⟨b, i, none⟩ = some v := by
 obtain ⟨H, h1, _, h3, _⟩ := h
 obtain ⟨k, hk⟩ := List.getElem?_of_mem h3
 exact h1.cell hk hv
theorem stays.rd {w00 w : World} {E1 E2 : Ent} {T : List Ent} {v : Value} {xs : List Value} (h : stays w00 E1 E2 T w) (hr : SRd w00 T v xs) : Rd w v xs := by
 obtain ⟨H, h1, h2, _, _, h5⟩ := h
 exact hr w H h1 h2 h5
theorem stays.rd2 {w00 w : World} {E1 E2 : Ent} {T : List Ent} {v : Value} {xs : List Value} (h : stays w00 E1 E2 T w) (hr : SRd w00 [E2] v xs) : Rd w v xs := by
 obtain ⟨H, h1, h2, _, h4, _⟩ := h
 exact hr w H h1 h2 fun e he => by obtain rfl := List.mem_singleton.1 he; exact h4
theorem write_len {b : Nat} {pv dv : Value} {pl : List UInt8} {w0 : World} (hPl : Rd w0 pv (pl.map vB)) (hbad : pl.length = 0 ∨ 2048 < pl.length) :
  Calls Tryd.prog 15 #[.pointer (some ⟨b, 0, none⟩), pv, dv] w0 fun e w' => e = .returned (.tuple #[.slice none 0 0, .int .i64 2]) ∧ Ext w0 w' := by
 obtain ⟨Ap, cp, hpv, hp1, hp2, _⟩ := hPl.isB
 subst hpv
 refine calls_start 105 Tryd.func15 rfl Tryd.ntmps15 rfl fun a hF => ?_
 refine wK fun Kq1 hKq1 => ?_
 refine wR ?_
 refine wg hF rfl rfl rfl (gv_assign rfl (ev_const _ _)) fun a hF => ?_
 refine wg hF rfl rfl rfl (gv_assign rfl (ev_const _ _)) fun a hF => ?_
 refine wN ?_
 refine tN (hKq1 _ _ ?_)
 refine wK fun Kq2 hKq2 => ?_
 refine wK fun Kq3 hKq3 => ?_
 refine wR ?_
 refine wg hF rfl rfl rfl (gv_move rfl (hF.t rfl)) fun a hF => ?_
 refine wg hF rfl rfl rfl (gv_eqlNil rfl u24 (hF.t rfl) (ev_const _ _)) fun a hF => ?_
 refine wg hF rfl rfl rfl (gv_move rfl (hF.t rfl)) fun a hF => ?_
 refine wpList_stp (stp_gv hF (wanted_of hF rfl rfl (rfl)) rfl rfl (gv_move rfl (hF.t rfl)) fun a hF => ?_)
 refine wpList_stp (stp_gv hF (wanted_of hF rfl rfl (rfl)) rfl rfl (gv_len rfl u22 (hF.t rfl)) fun a hF => ?_)
 refine wpList_stp (stp_gv hF (wanted_of hF rfl rfl (rfl)) rfl rfl (gv_eql rfl (hF.t rfl) (ev_const _ _)) fun a hF => ?_)
 refine wg hF rfl rfl rfl (gv_pickF rfl (hF.t rfl) (hF.t rfl)) fun a hF => ?_
 refine wg hF rfl rfl rfl (gv_move rfl (hF.t rfl)) fun a hF => ?_
 refine wpList_stp (stp_gvG' hF rfl rfl rfl rfl rfl (fun hg => gv_move rfl (hF.t rfl)) fun a hF => ?_)
 refine wpList_stp (stp_gvG' hF rfl rfl rfl rfl rfl (fun hg => gv_len rfl u22 ((hF.t rfl).trans (if_neg hg))) fun a hF => ?_)
 refine wpList_stp (stp_gvG' hF rfl rfl rfl rfl rfl (fun hg => gv_gtr rfl ((hF.t rfl).trans (if_neg hg)) (ev_const _ _)) fun a hF => ?_)
 refine wg hF rfl rfl rfl (gv_pickOr rfl (hF.t rfl) (ev_const _ _) (hF.t rfl)) fun a hF => ?_
 refine wN ?_
 refine tN (hKq3 _ _ ?_)
 refine cond_dec (hF.t rfl) (fun h24 => ?_) (fun h24 => ?_)
 ·
  refine wK fun Kq4 hKq4 => ?_
  refine wR ?_
  refine wg hF rfl rfl rfl (gv_assign rfl (ev_const _ _)) fun a hF => ?_
  refine wg hF rfl rfl rfl (gv_assign rfl (ev_const _ _)) fun a hF => ?_
  refine wN ?_
  refine tN (hKq4 _ _ ?_)
  refine wp_ret ?_
  refine then_ret ?_
  refine ret2 (fn := Tryd.f15) (t := 6) (u := 7) hF rfl rfl rfl ?_
  exact ⟨rfl, Ext.refl _⟩
 ·
  exfalso
  omega
set_option maxHeartbeats 1000000 in
theorem write1_ok {w00 w : World} {T0 : List Ent} {b n s : Nat} {seq : UInt32} {mac pv lv : Value} {pl dl K C L ml B : List UInt8} {okb : Option Nat} (hG : Glob w00) (hT0 : ∀ e ∈ T0, e.nw = true) (hS : St w00 w (⟨true, some b, wrt seq (.pointer (some ⟨s, 0, none⟩)) mac n⟩ :: ⟨true, some s, strm K (C) (lv)⟩ :: ⟨true, okb, blkB 129 B⟩ :: T0)) (hL : SRd w00 [⟨true, okb, blkB 129 B⟩] lv (L.map vB)) (hK : K.length = 176) (hC : C.length = 16) (hPl0 : SRd w00 T0 pv (pl.map vB)) (hM : SRd w00 T0 mac (ml.map vB)) (hml : ml.length = 32) (h1 : 1 ≤ pl.length) (h2 : pl.length ≤ 2048) (hd : dl.length ≤ 274877906944) (hn : n ≤ 4611686018427387904) :
  Calls Tryd.prog 15 #[.pointer (some ⟨b, 0, none⟩), pv, sV dl] w fun e w' => ∃ v lv1 okb1 B1, e = .returned (.tuple #[v, .int .i64 0]) ∧ ownP w00 5 (⟨true, some b, wrt (seq + 1) (.pointer (some ⟨s, 0, none⟩)) mac (n + 1)⟩ :: ⟨true, some s, strm K ((kst K (C, L) (pktF seq pl dl 16).length).1) (lv1)⟩ :: ⟨true, okb1, blkB 129 B1⟩ :: T0) (pktK seq pl dl K C L ml) v w' ∧ SRd w00 [⟨true, okb1, blkB 129 B1⟩] lv1 ((kst K (C, L) (pktF seq pl dl 16).length).2.map vB) := by
 obtain ⟨T, hTE⟩ : ∃ T : List Ent, T = ⟨true, some s, strm K (C) (lv)⟩ :: ⟨true, okb, blkB 129 B⟩ :: T0 := ⟨_, rfl⟩
 rw [← hTE] at hS
 have hT : ∀ e ∈ T, e.nw = true := by rw [hTE]; exact nw_cons rfl (nw_cons rfl hT0)
 have hPl : SRd w00 T pv (pl.map vB) := hPl0.mono fun e he => by rw [hTE]; exact List.mem_cons_of_mem _ (List.mem_cons_of_mem _ he)
 obtain ⟨Ap, cp, hpv, hp1, hp2, _⟩ := (hPl w _ hS (nw_cons rfl hT) (fun e he => List.mem_cons_of_mem _ he)).isB
 subst hpv
 refine calls_start 105 Tryd.func15 rfl Tryd.ntmps15 rfl fun a hF => ?_
 refine wK fun Kq1 hKq1 => ?_
 refine wR ?_
 refine wg hF rfl rfl rfl (gv_assign rfl (ev_const _ _)) fun a hF => ?_
 refine wg hF rfl rfl rfl (gv_assign rfl (ev_const _ _)) fun a hF => ?_
 refine wN ?_
 refine tN (hKq1 _ _ ?_)
 refine wK fun Kq2 hKq2 => ?_
 refine wK fun Kq3 hKq3 => ?_
 refine wR ?_
 refine wg hF rfl rfl rfl (gv_move rfl (hF.t rfl)) fun a hF => ?_
 refine wg hF rfl rfl rfl (gv_eqlNil rfl u24 (hF.t rfl) (ev_const _ _)) fun a hF => ?_
 refine wg hF rfl rfl rfl (gv_move rfl (hF.t rfl)) fun a hF => ?_
 refine wpList_stp (stp_gv hF (wanted_of hF rfl rfl (rfl)) rfl rfl (gv_move rfl (hF.t rfl)) fun a hF => ?_)
 refine wpList_stp (stp_gv hF (wanted_of hF rfl rfl (rfl)) rfl rfl (gv_len rfl u22 (hF.t rfl)) fun a hF => ?_)
 refine wpList_stp (stp_gv hF (wanted_of hF rfl rfl (rfl)) rfl rfl (gv_eqlF rfl (hF.t rfl) (ev_const _ _) (by omega)) fun a hF => ?_)
 refine wg hF rfl rfl rfl (gv_pickF rfl (hF.t rfl) (hF.t rfl)) fun a hF => ?_
 refine wg hF rfl rfl rfl (gv_move rfl (hF.t rfl)) fun a hF => ?_
 refine wpList_stp (stp_gv hF (wanted_of hF rfl rfl (rfl)) rfl rfl (gv_move rfl (hF.t rfl)) fun a hF => ?_)
 refine wpList_stp (stp_gv hF (wanted_of hF rfl rfl (rfl)) rfl rfl (gv_len rfl u22 (hF.t rfl)) fun a hF => ?_)
 refine wpList_stp (stp_gv hF (wanted_of hF rfl rfl (rfl)) rfl rfl (gv_gtrF rfl (hF.t rfl) (ev_const _ _) (by omega)) fun a hF => ?_)
 refine wg hF rfl rfl rfl (gv_pickF rfl (hF.t rfl) (hF.t rfl)) fun a hF => ?_
 refine wN ?_
 refine tN (hKq3 _ _ ?_)
 refine wp_cond_false (hF.t rfl) ?_
 refine wp_skip ?_
 refine tN (hKq2 _ _ ?_)
 refine wK fun Kq4 hKq4 => ?_
 refine wR ?_
 refine wg hF rfl rfl rfl (gv_move rfl (hF.t rfl)) fun a hF => ?_
 refine wg hF rfl rfl rfl (gv_nilCheck rfl (hF.t rfl)) fun a hF => ?_
 refine wg hF rfl rfl rfl (gv_field (r := 0) rfl u37 rfl rfl z35 (by decide) (hF.t rfl)) fun a hF => ?_
 refine wpList_stp (stp_call hF (wanted_none rfl) rfl rfl Tryd.ok43 rfl (Evs.cons (hF.t rfl) Evs.nil) (blk1_ok (hS.cell (k := 0) (i := 1) (v := .pointer (some ⟨s, 0, none⟩)) rfl rfl)) fun e w h => ?_)
 obtain ⟨rfl, hx⟩ := h
 refine ⟨_, rfl, fun a hF => ?_⟩
 replace hS := hS.ext hx
 clear hx
 refine wg hF rfl rfl rfl (gv_assign rfl (hF.t rfl)) fun a hF => ?_
 refine wN ?_
 refine tN (hKq4 _ _ ?_)
 refine wK fun Kq5 hKq5 => ?_
 refine wR ?_
 refine wg hF rfl rfl rfl (gv_move rfl (hF.t rfl)) fun a hF => ?_
 refine wg hF rfl rfl rfl (gv_move rfl (hF.t rfl)) fun a hF => ?_
 refine wg hF rfl rfl rfl (gv_len rfl u22 (hF.t rfl)) fun a hF => ?_
 refine wg hF rfl rfl rfl (gv_nadd (m := 5) rfl rfl (hF.t rfl) (by omega)) fun a hF => ?_
 refine wg hF rfl rfl rfl (gv_move rfl (hF.t rfl)) fun a hF => ?_
 refine wg hF rfl rfl rfl (gv_nrem rfl (hF.t rfl) (hF.t rfl) (by omega)) fun a hF => ?_
 refine wg hF rfl rfl rfl (gv_nsub rfl (hF.t rfl) (hF.t rfl) (by omega) (by omega)) fun a hF => ?_
 refine wg hF rfl rfl rfl (gv_assign rfl (hF.t rfl)) fun a hF => ?_
 refine wN ?_
 refine tN (hKq5 _ _ ?_)
 refine wp_cut (fun a w => Fr 105 a [(0, .pointer (some ⟨b, 0, none⟩)), (1, .slice Ap pl.length cp), (2, sV dl), (9, vI (padn pl.length 16))] ∧ St w00 w (⟨true, some b, wrt seq (.pointer (some ⟨s, 0, none⟩)) mac n⟩ :: T)) ?_ ?_
 ·
  refine wK fun Kq6 hKq6 => ?_
  refine wR ?_
  refine wg hF rfl rfl rfl (gv_move rfl (hF.t rfl)) fun a hF => ?_
  refine wg hF rfl rfl rfl (gv_lss rfl (hF.t rfl) (ev_const _ _)) fun a hF => ?_
  refine wN ?_
  refine tN (hKq6 _ _ ?_)
  refine cond_dec (hF.t rfl) (fun h37 => ?_) (fun h37 => ?_)
  ·
   refine wR ?_
   refine wg hF rfl rfl rfl (gv_move rfl (hF.t rfl)) fun a hF => ?_
   refine wg hF rfl rfl rfl (gv_move rfl (hF.t rfl)) fun a hF => ?_
   refine wg hF rfl rfl rfl (gv_nadd rfl (hF.t rfl) (hF.t rfl) (by omega)) fun a hF => ?_
   refine wg hF rfl rfl rfl (gv_assign rfl (hF.t rfl)) fun a hF => ?_
   refine wN ?_
   refine then_normal ?_
   rw [padn_lo (show 16 - (5 + pl.length) % 16 < 4 by omega)] at hF
   exact ⟨hF.sub ⟨rfl, rfl, rfl, rfl, trivial⟩, hS⟩
  ·
   refine wp_skip ?_
   refine then_normal ?_
   rw [padn_hi (show ¬ 16 - (5 + pl.length) % 16 < 4 by omega)] at hF
   exact ⟨hF.sub ⟨rfl, rfl, rfl, rfl, trivial⟩, hS⟩
 ·
  rintro a w ⟨hF, hS⟩
  obtain ⟨nn, hnnE⟩ : ∃ nn, nn = padn pl.length 16 := ⟨_, rfl⟩
  have hnn : nn ≤ 32 := by have := padn_le (n := pl.length) (u := 16); omega
  rw [← hnnE] at hF
  refine wK fun Kq7 hKq7 => ?_
  refine wR ?_
  refine wg hF rfl rfl rfl (gv_move rfl (hF.t rfl)) fun a hF => ?_
  refine wg hF rfl rfl rfl (gv_move rfl (hF.t rfl)) fun a hF => ?_
  refine wg hF rfl rfl rfl (gv_nilCheck rfl (hF.t rfl)) fun a hF => ?_
  refine wg hF rfl rfl rfl (gv_field (r := 0) rfl u37 rfl rfl z35 (by decide) (hF.t rfl)) fun a hF => ?_
  refine wg hF rfl rfl rfl (gv_field (r := 0) rfl u35 rfl rfl z32 (by decide) (hF.t rfl)) fun a hF => ?_
  refine wg hF rfl rfl rfl (gv_load rfl u32 rfl (hF.t rfl) (cell_ix (j := 0) (hS.cell (k := 0) rfl (rfl)) (by omega))) fun a hF => ?_
  refine wg hF rfl rfl rfl (gv_conv_w_d rfl u32 u76 (hF.t rfl)) fun a hF => ?_
  refine wpList_stp (stp_call hF (wanted_none rfl) rfl rfl Tryd.ok44 rfl (Evs.cons (hF.t rfl) (Evs.cons (hF.t rfl) Evs.nil)) (draw_ok (hG.ext (hS.toExt (nw_cons rfl hT))) hd) fun e w h => ?_)
  obtain ⟨rfl, hx⟩ := h
  refine ⟨_, rfl, fun a hF => ?_⟩
  replace hS := hS.ext hx
  clear hx
  refine wpList_stp (stp_alloc hF (wanted_none rfl) rfl rfl rfl Tryd.zv94 rfl hS fun dd a w hF hS => ?_)
  refine wpList_stp (stp_storeAll hF (wanted_none rfl) rfl rfl (z94.trans (congrArg some (by rw [List.length_map, drawF_len]))) (hF.t rfl) (hF.t rfl) (one_B _) hS (k := 0) rfl (by rw [List.length_map, drawF_len]; rfl) fun w hS => ?_)
  obtain ⟨DD, hDD⟩ : ∃ DD, DD = drawF dl seq.toUInt64 := ⟨_, rfl⟩
  have hDl : DD.length = 32 := by rw [hDD]; exact drawF_len _ _
  rw [← hDD] at hS
  refine wN ?_
  refine tN (hKq7 _ _ ?_)
  refine wK fun Kq8 hKq8 => ?_
  refine wR ?_
  refine wg hF rfl rfl rfl (gv_move rfl (hF.t rfl)) fun a hF => ?_
  refine wg hF rfl rfl rfl (gv_len rfl u22 (hF.t rfl)) fun a hF => ?_
  refine wg hF rfl rfl rfl (gv_nadd (m := 1) rfl rfl (hF.t rfl) (by omega)) fun a hF => ?_
  refine wg hF rfl rfl rfl (gv_move rfl (hF.t rfl)) fun a hF => ?_
  refine wg hF rfl rfl rfl (gv_nadd rfl (hF.t rfl) (hF.t rfl) (by omega)) fun a hF => ?_
  refine wg hF rfl rfl rfl (gv_conv_i_w rfl u3 u32 (hF.t rfl)) fun a hF => ?_
  replace hS := hS.addNil (blk 5 (([] : List UInt8).map vB ++ []))
  refine wpList_stp (stp_call hF (wanted_none rfl) rfl rfl Tryd.ok45 rfl (Evs.cons (ev_const _ _) (Evs.cons (hF.t rfl) Evs.nil)) (u32_ok (o := none) (l := []) (op := []) (nw_cons rfl (nw_cons rfl hT)) hS (fun _ => ⟨rfl, rfl⟩) (by simp) (by simp)) fun e w h => ?_)
  obtain ⟨p, pp, rfl, po, pc, hS⟩ := h
  simp only [List.nil_append] at hS po pc
  refine ⟨_, rfl, fun a hF => ?_⟩
  simp only [List.nil_append] at hF
  refine wg hF rfl rfl rfl (gv_move rfl (hF.t rfl)) fun a hF => ?_
  refine wg hF rfl rfl rfl (gv_conv_i_b rfl u3 u5 (hF.t rfl)) fun a hF => ?_
  refine wpList_stp (stp_build1 (v := _) hF (wanted_none rfl) rfl rfl rfl u22 Tryd.ty5 (hF.t rfl) hS fun zb a w hF hS => ?_)
  refine wpList_stp (stp_app1 (k := 0) hF (wanted_none rfl) rfl rfl rfl u22 Tryd.ty5 rfl (hF.t rfl) (hF.t rfl) hS rfl po pc (by rw [u32B_len]; omega) fun p pp a w hF po pc hS => ?_)
  refine wg hF rfl rfl rfl (gv_assign rfl (hF.t rfl)) fun a hF => ?_
  obtain ⟨P0, hP0⟩ : ∃ P0, P0 = u32B (UInt32.ofNat (1 + pl.length + nn)) ++ [UInt8.ofNat nn] := ⟨_, rfl⟩
  rw [← hP0] at hS po pc hF
  have hP0l : P0.length = 5 := by rw [hP0, List.length_append, u32B_len]; rfl
  refine wN ?_
  refine tN (hKq8 _ _ ?_)
  refine wK fun Kq9 hKq9 => ?_
  refine Fw.wp_region_draw (by kernel_rfl) fun w hx => ?_
  replace hS := hS.ext hx
  clear hx
  refine run_headT (n := 6) _ [2, 5] (fun s_ w => s_ = 0 → St w00 w (⟨true, p, blk 5 (P0.map vB ++ pp)⟩ :: (⟨true, some dd, blkB 94 DD⟩ :: ⟨true, some b, wrt seq (.pointer (some ⟨s, 0, none⟩)) mac n⟩ :: T))) [(2, 62, fun s_ v w => 1 ≤ s_ ∧ (s_ = 1 → ownP w00 5 (⟨true, some dd, blkB 94 DD⟩ :: ⟨true, some b, wrt seq (.pointer (some ⟨s, 0, none⟩)) mac n⟩ :: T) (P0 ++ pl) v w)), (5, 65, fun s_ v w => s_ = 2 ∧ ownP w00 5 (⟨true, some dd, blkB 94 DD⟩ :: ⟨true, some b, wrt seq (.pointer (some ⟨s, 0, none⟩)) mac n⟩ :: T) (P0 ++ pl ++ DD.take nn) v w)] hF (hS.toExt (nw_cons rfl (nw_cons rfl (nw_cons rfl hT)))) (fun _ => hS) (fun _ _ _ h hx hs => (h hs).ext hx) (by kernel_rfl) rfl (fa_cons rfl (fa_cons rfl fa_nil)) (fa_cons (fun _ _ _ _ h hx => ⟨h.1, fun hs => (h.2 hs).ext hx⟩) (fa_cons (fun _ _ _ _ h hx => ⟨h.1, h.2.ext hx⟩) fa_nil)) (fa_cons ⟨Nat.zero_le _, Nat.le_of_ble_eq_true rfl⟩ (fa_cons ⟨Nat.zero_le _, Nat.le_of_ble_eq_true rfl⟩ fa_nil)) rfl (by kernel_rfl) ?_
  refine dg hF rfl rfl rfl rfl (fun w hx => gv_move rfl (hF.t rfl)) fun a hF => ?_
  refine dg hF rfl rfl rfl rfl (fun w hx => gv_move rfl (hF.t rfl)) fun a hF => ?_
  refine dw_fl rfl ?_
  refine dg hF rfl rfl rfl rfl (fun w hx => gv_move rfl (hF.t rfl)) fun a hF => ?_
  refine dg hF rfl rfl rfl rfl (fun w hx => gv_sliceArrHi rfl u94 z5 (hF.t rfl) (hF.t rfl) hnn) fun a hF => ?_
  refine dw_fl rfl ?_
  refine dw_nil ⟨(fa_cons ?_ (fa_cons ?_ fa_nil)), fun a w hx hA hR hP => ?_⟩
  ·
   intro s_ a w hsl hx hA hdp hP
   replace hF := hA _ hF
   refine ⟨_, rfl, .inr ⟨0, rfl, fun hs => ?_⟩⟩
   subst hs
   refine tx_appB (k := 0) (wanted_none rfl) rfl u22 Tryd.ty5 rfl (hF.t rfl) (hF.t rfl) (hP rfl) rfl po pc (hPl _ _ (hP rfl) (nw_cons rfl (nw_cons rfl (nw_cons rfl hT))) (fun e he => List.mem_cons_of_mem _ (List.mem_cons_of_mem _ (List.mem_cons_of_mem _ he)))) (by omega) fun o op w' h2 h3 h4 => ?_
   exact ⟨(h4.toExt (nw_cons rfl (nw_cons rfl (nw_cons rfl hT)))), (fun h => by cases h), ⟨by omega, fun _ => ⟨o, op, rfl, h2, h3, h4⟩⟩, (fa_cons (fun h => absurd h.1 (by decide)) (fa_cons (fun h => absurd h.1 (by decide)) fa_nil))⟩
  ·
   intro s_ a w hsl hx hA hdp hP
   replace hF := hA _ hF
   refine ⟨_, rfl, .inr ⟨1, rfl, fun hs => ?_⟩⟩
   subst hs
   obtain ⟨o, op, hv, po, pc, hS⟩ := ((hdp _ (List.mem_of_getElem? (i := 0) rfl) (by kernel_rfl))).2 rfl
   have hR : Rd w (.slice (some ⟨dd, 0, none⟩) nn 32) ((DD.take nn).map vB) := by
    rw [List.map_take]
    exact (SRd.cutHi (SRd.arr (w0 := w00) (T := [⟨true, some dd, blkB 94 DD⟩]) List.mem_cons_self hDl (by omega)) hnn) w _ hS (nw_cons rfl (nw_cons rfl (nw_cons rfl hT))) (by simp)
   have hTl : (DD.take nn).length = nn := by rw [List.length_take]; omega
   refine tx_appB (k := 0) (wanted_none rfl) rfl u22 Tryd.ty5 rfl ((hF.t rfl).trans hv) (hF.t rfl) hS rfl po pc hR (by rw [List.length_append]; omega) fun o op w' h2 h3 h4 => ?_
   exact ⟨(h4.toExt (nw_cons rfl (nw_cons rfl (nw_cons rfl hT)))), (fun h => by cases h), ⟨rfl, ⟨o, op, rfl, h2, h3, h4⟩⟩, (fa_cons (fun h => ⟨by omega, fun h => by cases h⟩) (fa_cons (fun h => absurd h.1 (by decide)) fa_nil))⟩
  replace hF := hA _ hF
  clear hA
  clear hP
  obtain ⟨_, p, pp, hv, po, pc, hS⟩ := hR _ (List.mem_of_getElem? (i := 1) rfl)
  replace hF : Fr 105 a [(0, .pointer (some ⟨b, 0, none⟩)), (1, .slice Ap pl.length cp), (2, sV dl), (65, ownV p (P0 ++ pl ++ DD.take nn).length ((P0 ++ pl ++ DD.take nn).length + pp.length))] := hF.sub ⟨rfl, rfl, rfl, congrArg some hv, trivial⟩
  clear hv hR
  refine run_stp (by kernel_rfl) rfl (stp_gv hF (wanted_none rfl) rfl rfl (gv_assign rfl (hF.t rfl)) fun a hF => ?_)
  refine run_done (by decide) ?_
  refine tN (hKq9 _ _ ?_)
  refine wK fun Kq10 hKq10 => ?_
  refine wR ?_
  refine wg hF rfl rfl rfl (gv_move rfl (hF.t rfl)) fun a hF => ?_
  refine wg hF rfl rfl rfl (gv_assign rfl (hF.t rfl)) fun a hF => ?_
  refine wN ?_
  refine tN (hKq10 _ _ ?_)
  refine wK fun Kq11 hKq11 => ?_
  refine wK fun Kq12 hKq12 => ?_
  refine wR ?_
  refine wg hF rfl rfl rfl (gv_move rfl (hF.t rfl)) fun a hF => ?_
  refine wg hF rfl rfl rfl (gv_nilCheck rfl (hF.t rfl)) fun a hF => ?_
  refine wg hF rfl rfl rfl (gv_field (r := 0) rfl u37 rfl rfl z35 (by decide) (hF.t rfl)) fun a hF => ?_
  refine wg hF rfl rfl rfl (gv_field (r := 1) rfl u35 rfl rfl z33 (by decide) (hF.t rfl)) fun a hF => ?_
  refine wg hF rfl rfl rfl (gv_load rfl u33 rfl (hF.t rfl) (cell_ix (j := 1) (hS.cell (k := 2) rfl (rfl)) (by omega))) fun a hF => ?_
  refine wg hF rfl rfl rfl (gv_neqNil rfl u33 (hF.t rfl) (ev_const _ _)) fun a hF => ?_
  refine wN ?_
  refine tN (hKq12 _ _ ?_)
  refine wp_cond_true (hF.t rfl) ?_
  refine Fw.wp_region_draw (by kernel_rfl) fun w hx => ?_
  replace hS := hS.ext hx
  rw [hTE] at hS
  replace hS := (hS.move (k := 4) rfl).move (k := 4) rfl
  simp only [List.eraseIdx_cons_succ, List.eraseIdx_cons_zero] at hS
  obtain ⟨PP, hPP⟩ : ∃ PP, PP = P0 ++ pl ++ DD.take nn := ⟨_, rfl⟩
  rw [← hPP] at hS hF po pc
  have hPPl : PP.length ≤ 4096 := by rw [hPP, List.length_append, List.length_append, List.length_take]; omega
  have hPF : PP = pktF seq pl dl 16 := by rw [hPP, pktF, ← hnnE, ← hDD, ← hP0]
  clear hx
  refine run_headT (n := 13) _ [6, 12] (fun s_ w => stays w00 (⟨true, some b, wrt seq (.pointer (some ⟨s, 0, none⟩)) mac n⟩ : Ent) (⟨true, p, blk 5 (PP.map vB ++ pp)⟩ : Ent) T0 w ∧ (s_ = 0 → St w00 w (⟨true, some s, strm K (C) (lv)⟩ :: ⟨true, okb, blkB 129 B⟩ :: ((⟨true, p, blk 5 (PP.map vB ++ pp)⟩ : Ent) :: ⟨true, some dd, blkB 94 DD⟩ :: (⟨true, some b, wrt seq (.pointer (some ⟨s, 0, none⟩)) mac n⟩ : Ent) :: T0)))) [(4, 77, FtE (.pointer (some ⟨s, 0, none⟩))), (6, 79, fun s_ v w => 1 ≤ s_ ∧ (s_ = 1 → ∃ lv1 okb1 B1, ownP w00 5 (⟨true, some s, strm K ((kst K (C, L) PP.length).1) (lv1)⟩ :: ⟨true, okb1, blkB 129 B1⟩ :: ((⟨true, p, blk 5 (PP.map vB ++ pp)⟩ : Ent) :: ⟨true, some dd, blkB 94 DD⟩ :: (⟨true, some b, wrt seq (.pointer (some ⟨s, 0, none⟩)) mac n⟩ : Ent) :: T0)) (outT K (C, L) PP PP.length) v w ∧ SRd w00 [⟨true, okb1, blkB 129 B1⟩] lv1 ((kst K (C, L) PP.length).2.map vB))), (11, 84, fun s_ v w => 1 ≤ s_ ∧ (s_ = 1 → Rd w v ((codeF seq ml PP).map vB))), (12, 85, fun s_ v w => s_ = 2 ∧ ∃ lv1 okb1 B1, ownP w00 5 (⟨true, some s, strm K ((kst K (C, L) PP.length).1) (lv1)⟩ :: ⟨true, okb1, blkB 129 B1⟩ :: ((⟨true, p, blk 5 (PP.map vB ++ pp)⟩ : Ent) :: ⟨true, some dd, blkB 94 DD⟩ :: (⟨true, some b, wrt seq (.pointer (some ⟨s, 0, none⟩)) mac n⟩ : Ent) :: T0)) (outT K (C, L) PP PP.length ++ codeF seq ml PP) v w ∧ SRd w00 [⟨true, okb1, blkB 129 B1⟩] lv1 ((kst K (C, L) PP.length).2.map vB))] hF (hS.toExt (nw_cons rfl (nw_cons rfl (nw_cons rfl (nw_cons rfl (nw_cons rfl hT0)))))) (⟨⟨_, hS, (nw_cons rfl (nw_cons rfl (nw_cons rfl (nw_cons rfl (nw_cons rfl hT0))))), (List.mem_of_getElem? (i := 4) rfl), (List.mem_of_getElem? (i := 2) rfl), (fun e he => List.mem_cons_of_mem _ (List.mem_cons_of_mem _ (List.mem_cons_of_mem _ (List.mem_cons_of_mem _ (List.mem_cons_of_mem _ (he))))))⟩, fun _ => hS⟩) (fun _ _ _ h hx => ⟨h.1.ext hx, fun hs => (h.2 hs).ext hx⟩) (by kernel_rfl) rfl (fa_cons rfl (fa_cons rfl (fa_cons rfl (fa_cons rfl fa_nil)))) (fa_cons (FtE.lasts _) (fa_cons (fun _ _ _ _ h hx => ⟨h.1, fun hs => by obtain ⟨a1, a2, a3, h1, h2⟩ := h.2 hs; exact ⟨a1, a2, a3, h1.ext hx, h2⟩⟩) (fa_cons (fun _ _ _ _ h hx => ⟨h.1, fun hs => (h.2 hs).ext hx⟩) (fa_cons (fun _ _ _ _ h hx => ⟨h.1, by obtain ⟨a1, a2, a3, h1, h2⟩ := h.2; exact ⟨a1, a2, a3, h1.ext hx, h2⟩⟩) fa_nil)))) (fa_cons ⟨Nat.zero_le _, Nat.le_of_ble_eq_true rfl⟩ (fa_cons ⟨Nat.zero_le _, Nat.le_of_ble_eq_true rfl⟩ (fa_cons ⟨Nat.zero_le _, Nat.le_of_ble_eq_true rfl⟩ (fa_cons ⟨Nat.zero_le _, Nat.le_of_ble_eq_true rfl⟩ fa_nil)))) rfl (by kernel_rfl) ?_
  refine dg hF rfl rfl rfl rfl (fun w hx => gv_move rfl (hF.t rfl)) fun a hF => ?_
  refine dg hF rfl rfl rfl rfl (fun w hx => gv_nilCheck rfl (hF.t rfl)) fun a hF => ?_
  refine dg hF rfl rfl rfl rfl (fun w hx => gv_field (r := 0) rfl u37 rfl rfl z35 (by decide) (hF.t rfl)) fun a hF => ?_
  refine dg hF rfl rfl rfl rfl (fun w hx => gv_field (r := 1) rfl u35 rfl rfl z33 (by decide) (hF.t rfl)) fun a hF => ?_
  refine dw_fl rfl ?_
  refine dg hF rfl rfl rfl rfl (fun w hx => gv_move rfl (hF.t rfl)) fun a hF => ?_
  refine dw_fl rfl ?_
  refine dg hF rfl rfl rfl rfl (fun w hx => gv_move rfl (hF.t rfl)) fun a hF => ?_
  refine dg hF rfl rfl rfl rfl (fun w hx => gv_nilCheck rfl (hF.t rfl)) fun a hF => ?_
  refine dg hF rfl rfl rfl rfl (fun w hx => gv_field (r := 0) rfl u37 rfl rfl z35 (by decide) (hF.t rfl)) fun a hF => ?_
  refine dg hF rfl rfl rfl rfl (fun w hx => gv_move rfl (hF.t rfl)) fun a hF => ?_
  refine dw_fl rfl ?_
  refine dw_fl rfl ?_
  refine dw_nil ⟨(fa_cons ?_ (fa_cons ?_ (fa_cons ?_ (fa_cons ?_ fa_nil)))), fun a w hx hA hR hP => ?_⟩
  ·
   intro s_ a w hsl hx hA hdp hP
   replace hF := hA _ hF
   exact ⟨_, rfl, .inl ⟨show (4 : Nat) ∉ [6, 12] from by decide, sx_gv (wanted_none rfl) (gv_load rfl u33 rfl (hF.t rfl) (hP.1.cell (i := 1) rfl)) rfl⟩⟩
  ·
   intro s_ a w hsl hx hA hdp hP
   replace hF := hA _ hF
   refine ⟨_, rfl, .inr ⟨0, rfl, fun hs => ?_⟩⟩
   subst hs
   refine tx_call (wanted_none rfl) Tryd.ok46 rfl (Evs.cons ((hF.t rfl).trans (hdp _ (List.mem_of_getElem? (i := 0) rfl) (by kernel_rfl))) (Evs.cons (hF.t rfl) Evs.nil)) ((turn_ok (bl := PP) (nw_cons rfl (nw_cons rfl (nw_cons rfl hT0))) (hP.2 rfl) hL (own_rd List.mem_cons_self po rfl pc) hK hC (by omega)).mono fun e w' h => ?_)
   obtain ⟨x, xp, lv1, okb1, B1, he, xo, xc, hS1, hL1⟩ := h
   refine ⟨_, he, hS1.toExt (nw_cons rfl (nw_cons rfl (nw_cons rfl (nw_cons rfl (nw_cons rfl (nw_cons rfl hT0)))))), ⟨⟨_, hS1, (nw_cons rfl (nw_cons rfl (nw_cons rfl (nw_cons rfl (nw_cons rfl (nw_cons rfl hT0)))))), (List.mem_of_getElem? (i := 5) rfl), (List.mem_of_getElem? (i := 3) rfl), (fun e he => List.mem_cons_of_mem _ (List.mem_cons_of_mem _ (List.mem_cons_of_mem _ (List.mem_cons_of_mem _ (List.mem_cons_of_mem _ (List.mem_cons_of_mem _ (he)))))))⟩, fun h => by cases h⟩, ⟨by omega, fun _ => ⟨lv1, okb1, B1, ⟨x, xp, ?_, ?_, ?_, hS1⟩, hL1⟩⟩, (fa_cons id (fa_cons (fun h => absurd h.1 (by decide)) (fa_cons (fun h => absurd h.1 (by decide)) (fa_cons (fun h => absurd h.1 (by decide)) fa_nil))))⟩
   ·
    rw [outT_len]
   ·
    intro h; have := xo h; exact ⟨List.length_eq_zero_iff.1 (by rw [outT_len, this.1]; rfl), this.2⟩
   ·
    rw [outT_len]; exact xc
  ·
   intro s_ a w hsl hx hA hdp hP
   replace hF := hA _ hF
   refine ⟨_, rfl, .inl ⟨show (11 : Nat) ∉ [6, 12] from by decide, sx_call (wanted_none rfl) Tryd.ok47 rfl (Evs.cons (hF.t rfl) (Evs.cons (hF.t rfl) Evs.nil)) ((code_ok (hG.ext ?_) (hP.1.cell (i := 0) rfl) (hP.1.cell (i := 2) rfl) (hP.1.rd hM) hml (hP.1.rd2 (own_rd List.mem_cons_self po rfl pc)) (by omega)).mono fun e w' h => ?_)⟩⟩
   ·
    obtain ⟨HH, g1, g2, _⟩ := hP.1
    exact g1.toExt g2
   ·
    obtain ⟨v, he, h1, h2⟩ := h
    exact ⟨v, he, ⟨((hdp _ (List.mem_of_getElem? (i := 1) rfl) (by kernel_rfl))).1, fun _ => h1⟩, h2⟩
  ·
   intro s_ a w hsl hx hA hdp hP
   replace hF := hA _ hF
   refine ⟨_, rfl, .inr ⟨1, rfl, fun hs => ?_⟩⟩
   subst hs
   obtain ⟨lv1, okb1, B1, ⟨x, xp, hv, xo, xc, hS1⟩, hL1⟩ := ((hdp _ (List.mem_of_getElem? (i := 1) rfl) (by kernel_rfl))).2 rfl
   refine tx_appB (k := 0) (wanted_none rfl) rfl u22 Tryd.ty5 rfl ((hF.t rfl).trans hv) (hF.t rfl) hS1 rfl xo xc (((hdp _ (List.mem_of_getElem? (i := 2) rfl) (by kernel_rfl))).2 rfl) (by rw [outT_len, codeF_len]; omega) fun o op w' h2 h3 h4 => ?_
   exact ⟨h4.toExt (nw_cons rfl (nw_cons rfl (nw_cons rfl (nw_cons rfl (nw_cons rfl (nw_cons rfl hT0)))))), ⟨⟨_, h4, (nw_cons rfl (nw_cons rfl (nw_cons rfl (nw_cons rfl (nw_cons rfl (nw_cons rfl hT0)))))), (List.mem_of_getElem? (i := 5) rfl), (List.mem_of_getElem? (i := 3) rfl), (fun e he => List.mem_cons_of_mem _ (List.mem_cons_of_mem _ (List.mem_cons_of_mem _ (List.mem_cons_of_mem _ (List.mem_cons_of_mem _ (List.mem_cons_of_mem _ (he)))))))⟩, fun h => by cases h⟩, ⟨rfl, lv1, okb1, B1, ⟨o, op, rfl, h2, h3, h4⟩, hL1⟩, (fa_cons id (fa_cons (fun _ => ⟨by omega, fun h => by cases h⟩) (fa_cons (fun _ => ⟨by omega, fun h => by cases h⟩) (fa_cons (fun h => absurd h.1 (by decide)) fa_nil))))⟩
  replace hF := hA _ hF
  clear hA
  clear hP
  obtain ⟨_, lv1, okb1, B1, ⟨x, xp, hv, xo, xc, hS⟩, hL1⟩ := hR _ (List.mem_of_getElem? (i := 3) rfl)
  replace hF : Fr 105 a [(0, .pointer (some ⟨b, 0, none⟩)), (1, .slice Ap pl.length cp), (2, sV dl), (85, ownV x (outT K (C, L) PP PP.length ++ codeF seq ml PP).length ((outT K (C, L) PP PP.length ++ codeF seq ml PP).length + xp.length))] := hF.sub ⟨rfl, rfl, rfl, congrArg some hv, trivial⟩
  clear hv hR
  refine run_stp (by kernel_rfl) rfl (stp_gv hF (wanted_none rfl) rfl rfl (gv_assign rfl (hF.t rfl)) fun a hF => ?_)
  refine run_done (by decide) ?_
  refine tN (hKq11 _ _ ?_)
  refine wK fun Kq13 hKq13 => ?_
  refine wR ?_
  refine wg hF rfl rfl rfl (gv_move rfl (hF.t rfl)) fun a hF => ?_
  refine wg hF rfl rfl rfl (gv_nilCheck rfl (hF.t rfl)) fun a hF => ?_
  refine wg hF rfl rfl rfl (gv_field (r := 0) rfl u37 rfl rfl z35 (by decide) (hF.t rfl)) fun a hF => ?_
  refine wg hF rfl rfl rfl (gv_field (r := 0) rfl u35 rfl rfl z32 (by decide) (hF.t rfl)) fun a hF => ?_
  refine wg hF rfl rfl rfl (gv_load rfl u32 rfl (hF.t rfl) (cell_ix (j := 0) (hS.cell (k := 5) rfl (rfl)) (by omega))) fun a hF => ?_
  refine wg hF rfl rfl rfl (gv_w_add (n := 1) rfl (hF.t rfl) rfl) fun a hF => ?_
  refine wg hF rfl rfl rfl (gv_nilCheck rfl (hF.t rfl)) fun a hF => ?_
  refine wg hF rfl rfl rfl (gv_field (r := 0) rfl u37 rfl rfl z35 (by decide) (hF.t rfl)) fun a hF => ?_
  refine wg hF rfl rfl rfl (gv_field (r := 0) rfl u35 rfl rfl z32 (by decide) (hF.t rfl)) fun a hF => ?_
  refine wpList_stp (stp_storeAt (0) hF (wanted_none rfl) rfl rfl z32 (hF.t rfl) (by omega) (hF.t rfl) rfl hS (k := 5) rfl (by simp) fun w hS => ?_)
  refine wN ?_
  refine tN (hKq13 _ _ ?_)
  refine wK fun Kq14 hKq14 => ?_
  refine wR ?_
  refine wg hF rfl rfl rfl (gv_move rfl (hF.t rfl)) fun a hF => ?_
  refine wg hF rfl rfl rfl (gv_nilCheck rfl (hF.t rfl)) fun a hF => ?_
  refine wg hF rfl rfl rfl (gv_field (r := 0) rfl u37 rfl rfl z35 (by decide) (hF.t rfl)) fun a hF => ?_
  refine wg hF rfl rfl rfl (gv_field (r := 3) rfl u35 rfl rfl z3 (by decide) (hF.t rfl)) fun a hF => ?_
  refine wg hF rfl rfl rfl (gv_load rfl u3 rfl (hF.t rfl) (cell_ix (j := 3) (hS.cell (k := 5) rfl (rfl)) (by omega))) fun a hF => ?_
  refine wg hF rfl rfl rfl (gv_nadd (n := 1) rfl (hF.t rfl) rfl (by omega)) fun a hF => ?_
  refine wg hF rfl rfl rfl (gv_nilCheck rfl (hF.t rfl)) fun a hF => ?_
  refine wg hF rfl rfl rfl (gv_field (r := 0) rfl u37 rfl rfl z35 (by decide) (hF.t rfl)) fun a hF => ?_
  refine wg hF rfl rfl rfl (gv_field (r := 3) rfl u35 rfl rfl z3 (by decide) (hF.t rfl)) fun a hF => ?_
  refine wpList_stp (stp_storeAt (3) hF (wanted_none rfl) rfl rfl z3 (hF.t rfl) (by omega) (hF.t rfl) rfl hS (k := 5) rfl (by simp) fun w hS => ?_)
  refine wN ?_
  refine tN (hKq14 _ _ ?_)
  refine wK fun Kq15 hKq15 => ?_
  refine wR ?_
  refine wg hF rfl rfl rfl (gv_move rfl (hF.t rfl)) fun a hF => ?_
  refine wg hF rfl rfl rfl (gv_assign rfl (hF.t rfl)) fun a hF => ?_
  refine wg hF rfl rfl rfl (gv_assign rfl (ev_const _ _)) fun a hF => ?_
  refine wN ?_
  refine tN (hKq15 _ _ ?_)
  refine wp_ret ?_
  refine ret2 (fn := Tryd.f15) (t := 6) (u := 7) hF rfl rfl rfl ?_
  replace hS := ((hS.move (k := 4) rfl).drop rfl)
  replace hS := ((hS.move (k := 3) rfl).drop rfl)
  replace hS := (hS.move (k := 3) rfl).move (k := 1) rfl
  exact ⟨_, lv1, okb1, B1, rfl, ⟨x, xp, by rw [pktK, ← hPF], by rw [pktK, ← hPF]; exact xo, by rw [pktK, ← hPF]; exact xc, by rw [pktK, ← hPF]; exact hS⟩, by rw [← hPF]; exact hL1⟩
end Go.Proofs.YtfhalnobaeogkaaDoor
set_option linter.unusedVariables false
set_option linter.unusedSimpArgs false
namespace Go.Proofs.YtfhalnobaeogkaaDoor
open Go Go.RowKit Go.Fw
theorem Tryd.zv37 : (Tryd.prog.info? 37).map (·.zero) = some (some (Value.agg (([Value.int .u32 0] ++ [Value.pointer none] ++ [Value.slice none 0 0] ++ [Value.int .i64 0])).toArray)) := by kernel_rfl
theorem Tryd.zv47 : (Tryd.prog.info? 47).map (·.zero) = some (some (Value.agg (([Value.int .u32 0] ++ [Value.pointer none] ++ [Value.slice none 0 0] ++ [Value.int .i64 0]) ++ [Value.slice none 0 0] ++ [Value.slice none 0 0] ++ [Value.bool false]).toArray)) := by kernel_rfl
theorem Tryd.ok14 : CallOk Tryd.prog 14 := ⟨_, Tryd.func14, by kernel_rfl, by kernel_rfl⟩
theorem Tryd.ok15 : CallOk Tryd.prog 15 := ⟨_, Tryd.func15, by kernel_rfl, by kernel_rfl⟩
theorem Tryd.ok16 : CallOk Tryd.prog 16 := ⟨_, Tryd.func16, by kernel_rfl, by kernel_rfl⟩
theorem Tryd.ok17 : CallOk Tryd.prog 17 := ⟨_, Tryd.func17, by kernel_rfl, by kernel_rfl⟩
theorem Tryd.ok18 : CallOk Tryd.prog 18 := ⟨_, Tryd.func18, by kernel_rfl, by kernel_rfl⟩
theorem Tryd.ok21 : CallOk Tryd.prog 21 := ⟨_, Tryd.func21, by kernel_rfl, by kernel_rfl⟩
theorem fit_pkt : pktF 0 [5] [120] 8 = [0, 0, 0, 12, 10, 5] ++ (drawF [120] 0).take 10 := by
 have h : ∀ D : List UInt8, u32B (UInt32.ofNat (1 + ([5] : List UInt8).length + padn ([5] : List UInt8).length 8)) ++ [UInt8.ofNat (padn ([5] : List UInt8).length 8)] ++ [5] ++ D.take (padn ([5] : List UInt8).length 8) = [0, 0, 0, 12, 10, 5] ++ D.take 10 := fun D => rfl
 exact h _
structure Fit7 (P : List UInt8) : Prop where
 pk : Pk0 P 16 10
 len : P.length = 16
 b3 : P.getD 3 0 = 12
 b4 : P.getD 4 0 = 10
 pay : ((P.take 16).take 6).drop 5 = [5]
 drop : P.drop 16 = []
theorem u32A_12 (R : List UInt8) : u32A (0 :: 0 :: 0 :: 12 :: R) 4 = 12 := by
 show ((((0 <<< UInt32.ofNat 8 ||| (0 : UInt8).toUInt32) <<< UInt32.ofNat 8 ||| (0 : UInt8).toUInt32) <<< UInt32.ofNat 8 ||| (0 : UInt8).toUInt32) <<< UInt32.ofNat 8 ||| (12 : UInt8).toUInt32) = 12
 decide
theorem fit7 : Fit7 (pktF 0 [5] [120] 8) := by
 rw [fit_pkt]
 have hl := drawF_len [120] 0
 generalize drawF [120] 0 = D at hl
 have hl' : (D.take 10).length = 10 := by rw [List.length_take]; omega
 generalize D.take 10 = E at hl'
 have h16 : ([0, 0, 0, 12, 10, 5] ++ E : List UInt8).length = 16 := by simp [hl']
 refine ⟨⟨?_, by omega, by omega, by omega, by rw [h16]; exact Nat.le_refl _, rfl, by omega, by omega⟩, h16, rfl, rfl, ?_, List.drop_of_length_le (by omega)⟩
 ·
  have : u32A (([0, 0, 0, 12, 10, 5] ++ E : List UInt8).take 8) 4 = 12 := u32A_12 _
  rw [this]; rfl
 ·
  rw [List.take_of_length_le (by omega : ([0, 0, 0, 12, 10, 5] ++ E : List UInt8).length ≤ 16)]; rfl
set_option maxHeartbeats 1000000 in
theorem fit_ok {w0 : World} (hG : Glob w0) :
  Calls Tryd.prog 14 #[] w0 fun e w' => e = .returned (.bool true) ∧ Ext w0 w' := by
 refine calls_start 55 Tryd.func14 rfl Tryd.ntmps14 rfl fun a hF => ?_
 have hS := St.refl w0
 refine wK fun Kq1 hKq1 => ?_
 refine wR ?_
 refine wg hF rfl rfl rfl (gv_assign rfl (ev_const _ _)) fun a hF => ?_
 refine wN ?_
 refine tN (hKq1 _ _ ?_)
 refine wK fun Kq2 hKq2 => ?_
 refine wR ?_
 refine wpList_stp (stp_alloc hF (wanted_none rfl) rfl rfl rfl Tryd.zv37 rfl hS fun wb a w hF hS => ?_)
 refine wN ?_
 refine tN (hKq2 _ _ ?_)
 refine wK fun Kq3 hKq3 => ?_
 refine wR ?_
 refine wpList_stp (stp_alloc hF (wanted_none rfl) rfl rfl rfl Tryd.zv47 rfl hS fun r a w hF hS => ?_)
 refine wN ?_
 refine tN (hKq3 _ _ ?_)
 refine wK fun Kq4 hKq4 => ?_
 refine wR ?_
 refine wpList_stp (stp_build1 (v := 5) hF (wanted_none rfl) rfl rfl rfl u22 Tryd.ty5 rfl hS fun pb a w hF hS => ?_)
 replace hS : St w0 w (⟨true, some wb, wrt 0 (.pointer none) (.slice none 0 0) 0⟩ :: ⟨true, some pb, blkB 5 [5]⟩ :: ⟨true, some r, rdr 0 (.pointer none) (.slice none 0 0) 0 (.slice none 0 0) (.slice none 0 0) false⟩ :: []) := hS.move (k := 2) rfl
 refine wpList_stp (stp_call hF (wanted_none rfl) rfl rfl Tryd.ok15 rfl (Evs.cons (hF.t rfl) (Evs.cons (hF.t rfl) (Evs.cons (ev_const _ _) Evs.nil))) (write0_ok (pl := [5]) (dl := [120]) hG (nw_cons rfl (nw_cons rfl nw_nil)) hS (SRd.arr List.mem_cons_self rfl (by omega)) (by decide) (by decide) (by decide) (by omega)) fun e w h => ?_)
 obtain ⟨v, rfl, dd, o, op, rfl, oo, oc, hS⟩ := h
 refine ⟨_, rfl, fun a hF => ?_⟩
 have hK := fit7
 generalize pktF 0 [5] [120] 8 = PK at hK hS hF oo oc
 obtain ⟨hK1, hK2, hK3, hK4, hK5, hK6⟩ := hK
 obtain ⟨o, rfl⟩ := own_some oo (by omega)
 refine wg hF rfl rfl rfl (gv_move rfl (hF.t rfl)) fun a hF => ?_
 refine wg hF rfl rfl rfl (gv_extract rfl (hF.t rfl) rfl) fun a hF => ?_
 refine wg hF rfl rfl rfl (gv_extract rfl (hF.t rfl) rfl) fun a hF => ?_
 refine wg hF rfl rfl rfl (gv_assign rfl (hF.t rfl)) fun a hF => ?_
 refine wg hF rfl rfl rfl (gv_assign rfl (hF.t rfl)) fun a hF => ?_
 refine wN ?_
 refine tN (hKq4 _ _ ?_)
 refine wK fun Kq5 hKq5 => ?_
 refine wR ?_
 refine wg hF rfl rfl rfl (gv_move rfl (hF.t rfl)) fun a hF => ?_
 replace hS := hS.move (k := 4) rfl
 refine wpList_stp (stp_call hF (wanted_none rfl) rfl rfl Tryd.ok16 rfl (Evs.cons (hF.t rfl) (Evs.cons (hF.t rfl) Evs.nil)) (feed0_ok (nw_cons rfl (nw_cons rfl (nw_cons rfl (nw_cons rfl nw_nil)))) hS (own_rd (l := PK) (pad := op) List.mem_cons_self oo rfl oc) (by omega)) fun e w h => ?_)
 obtain ⟨rfl, g, gp, go, gc, hS⟩ := h
 refine ⟨_, rfl, fun a hF => ?_⟩
 refine wN ?_
 refine tN (hKq5 _ _ ?_)
 refine wK fun Kq6 hKq6 => ?_
 refine wR ?_
 replace hS := hS.move (k := 1) rfl
 obtain ⟨Ag, hAg, hg⟩ := own_open (w0 := w0) (T := ⟨true, g, blk 5 (PK.map vB ++ gp)⟩ :: ⟨true, some o, blk 5 (PK.map vB ++ op)⟩ :: ⟨true, some dd, blkB 94 (drawF [120] (UInt32.toUInt64 0))⟩ :: ⟨true, some wb, wrt (0 + 1) (.pointer none) (.slice none 0 0) (0 + 1)⟩ :: ⟨true, some pb, blkB 5 [5]⟩ :: []) List.mem_cons_self go rfl gc
 rw [hAg] at hS
 refine wpList_stp (stp_call hF (wanted_none rfl) rfl rfl Tryd.ok17 rfl (Evs.cons (hF.t rfl) Evs.nil) (next0_ok (bl := PK) (L := 16) (pad := 10) (nw_cons rfl (nw_cons rfl (nw_cons rfl (nw_cons rfl (nw_cons rfl nw_nil))))) hS hg (by omega) hK1 (by omega) (by omega)) fun e w h => ?_)
 obtain ⟨q, qp, g2, gp2, rfl, go2, gc2, qc, hS⟩ := h
 refine ⟨_, rfl, fun a hF => ?_⟩
 rw [hK6] at hS go2 gc2
 obtain ⟨A2, hA2, _⟩ := ownV_pos (ob := g2) (n := ([] : List UInt8).length) (c := ([] : List UInt8).length + gp2.length) (hi := 0) (fun h => by rw [(go2 h).2]; exact ⟨rfl, rfl⟩) (Nat.zero_le _)
 rw [hA2] at hS
 have hq : Rd w (cut3V (some ⟨q, 0, none⟩) 5 6 6) (([5] : List UInt8).map vB) := by
  have hl16 : (PK.take 16).length = 16 := by rw [List.length_take]; omega
  have h0 := (own_rd (w0 := w0) (ob := some q) (l := PK.take 16) (pad := qp) (List.mem_of_getElem? (i := 2) rfl) (fun h => by cases h) hl16 qc) w _ hS (nw_cons rfl (nw_cons rfl (nw_cons rfl (nw_cons rfl (nw_cons rfl (nw_cons rfl (nw_cons rfl (nw_cons rfl nw_nil)))))))) (fun e he => he)
  have := Rd.cut3 (l := 5) (h := 6) (mx := 6) h0 (by omega) (by omega) (by omega) (by omega)
  rw [← List.map_take, ← List.map_drop, hK5] at this
  exact this
 refine wg hF rfl rfl rfl (gv_move rfl (hF.t rfl)) fun a hF => ?_
 refine wg hF rfl rfl rfl (gv_extract rfl (hF.t rfl) rfl) fun a hF => ?_
 refine wg hF rfl rfl rfl (gv_extract rfl (hF.t rfl) rfl) fun a hF => ?_
 refine wg hF rfl rfl rfl (gv_assign rfl (hF.t rfl)) fun a hF => ?_
 refine wg hF rfl rfl rfl (gv_assign rfl (hF.t rfl)) fun a hF => ?_
 refine wN ?_
 refine tN (hKq6 _ _ ?_)
 refine wK fun Kq7 hKq7 => ?_
 refine wR ?_
 refine wg hF rfl rfl rfl (gv_move rfl (hF.t rfl)) fun a hF => ?_
 refine wg hF rfl rfl rfl (gv_eqlT rfl (hF.t rfl) (ev_const _ _) (rfl)) fun a hF => ?_
 refine wg hF rfl rfl rfl (gv_move rfl (hF.t rfl)) fun a hF => ?_
 refine wpList_stp (stp_gv hF (wanted_of hF rfl rfl (rfl)) rfl rfl (gv_move rfl (hF.t rfl)) fun a hF => ?_)
 refine wpList_stp (stp_gv hF (wanted_of hF rfl rfl (rfl)) rfl rfl (gv_eqlT rfl (hF.t rfl) (ev_const _ _) (rfl)) fun a hF => ?_)
 refine wg hF rfl rfl rfl (gv_pickT rfl (hF.t rfl) (hF.t rfl)) fun a hF => ?_
 refine wg hF rfl rfl rfl (gv_move rfl (hF.t rfl)) fun a hF => ?_
 refine wpList_stp (stp_gv hF (wanted_of hF rfl rfl (rfl)) rfl rfl (gv_move rfl (hF.t rfl)) fun a hF => ?_)
 refine wpList_stp (stp_gv hF (wanted_of hF rfl rfl (rfl)) rfl rfl (gv_len rfl u22 (hF.t rfl)) fun a hF => ?_)
 refine wpList_stp (stp_gv hF (wanted_of hF rfl rfl (rfl)) rfl rfl (gv_eqlT rfl (hF.t rfl) (ev_const _ _) (by omega)) fun a hF => ?_)
 refine wg hF rfl rfl rfl (gv_pickT rfl (hF.t rfl) (hF.t rfl)) fun a hF => ?_
 refine wg hF rfl rfl rfl (gv_move rfl (hF.t rfl)) fun a hF => ?_
 refine wpList_stp (stp_gv hF (wanted_of hF rfl rfl (rfl)) rfl rfl (gv_move rfl (hF.t rfl)) fun a hF => ?_)
 refine wpList_stp (stp_gv hF (wanted_of hF rfl rfl (rfl)) rfl rfl (gv_indexSl (q := 3) rfl u22 z5 (hF.t rfl) rfl (by omega)) fun a hF => ?_)
 refine wpList_stp (stp_gv hF (wanted_of hF rfl rfl (rfl)) rfl rfl (gv_load rfl u5 rfl (hF.t rfl) (cell_ix (j := 3) (hS.cell (k := 4) rfl (at_map (by omega) 0)) (by omega))) fun a hF => ?_)
 refine wpList_stp (stp_gv hF (wanted_of hF rfl rfl (rfl)) rfl rfl (gv_eqlT rfl (hF.t rfl) (ev_const _ _) (by rw [hK3]; rfl)) fun a hF => ?_)
 refine wg hF rfl rfl rfl (gv_pickT rfl (hF.t rfl) (hF.t rfl)) fun a hF => ?_
 refine wg hF rfl rfl rfl (gv_move rfl (hF.t rfl)) fun a hF => ?_
 refine wpList_stp (stp_gv hF (wanted_of hF rfl rfl (rfl)) rfl rfl (gv_move rfl (hF.t rfl)) fun a hF => ?_)
 refine wpList_stp (stp_gv hF (wanted_of hF rfl rfl (rfl)) rfl rfl (gv_indexSl (q := 4) rfl u22 z5 (hF.t rfl) rfl (by omega)) fun a hF => ?_)
 refine wpList_stp (stp_gv hF (wanted_of hF rfl rfl (rfl)) rfl rfl (gv_load rfl u5 rfl (hF.t rfl) (cell_ix (j := 4) (hS.cell (k := 4) rfl (at_map (by omega) 0)) (by omega))) fun a hF => ?_)
 refine wpList_stp (stp_gv hF (wanted_of hF rfl rfl (rfl)) rfl rfl (gv_eqlT rfl (hF.t rfl) (ev_const _ _) (by rw [hK4]; rfl)) fun a hF => ?_)
 refine wg hF rfl rfl rfl (gv_pickT rfl (hF.t rfl) (hF.t rfl)) fun a hF => ?_
 refine wg hF rfl rfl rfl (gv_move rfl (hF.t rfl)) fun a hF => ?_
 refine wpList_stp (stp_gv hF (wanted_of hF rfl rfl (rfl)) rfl rfl (gv_move rfl (hF.t rfl)) fun a hF => ?_)
 refine wpList_stp (stp_gv hF (wanted_of hF rfl rfl (rfl)) rfl rfl (gv_convStr rfl u22 u5 u9 (hF.t rfl) hq) fun a hF => ?_)
 refine wpList_stp (stp_gv hF (wanted_of hF rfl rfl (rfl)) rfl rfl (gv_strEqlT rfl (hF.t rfl) (ev_const _ _) rfl) fun a hF => ?_)
 refine wg hF rfl rfl rfl (gv_pickT rfl (hF.t rfl) (hF.t rfl)) fun a hF => ?_
 refine wg hF rfl rfl rfl (gv_move rfl (hF.t rfl)) fun a hF => ?_
 refine wpList_stp (stp_gv hF (wanted_of hF rfl rfl (rfl)) rfl rfl (gv_field (r := 0) rfl u37 rfl rfl z35 (by decide) (hF.t rfl)) fun a hF => ?_)
 refine wpList_stp (stp_call hF (wanted_of hF rfl rfl (rfl)) rfl rfl Tryd.ok21 rfl (Evs.cons (hF.t rfl) Evs.nil) (num_ok (hS.cell (k := 6) (i := 0) rfl rfl)) fun e w h => ?_)
 obtain ⟨rfl, hx⟩ := h
 refine ⟨_, rfl, fun a hF => ?_⟩
 replace hS := hS.ext hx
 clear hx
 refine wpList_stp (stp_gv hF (wanted_of hF rfl rfl (rfl)) rfl rfl (gv_eqlT rfl (hF.t rfl) (ev_const _ _) (by decide)) fun a hF => ?_)
 refine wg hF rfl rfl rfl (gv_pickT rfl (hF.t rfl) (hF.t rfl)) fun a hF => ?_
 refine wg hF rfl rfl rfl (gv_move rfl (hF.t rfl)) fun a hF => ?_
 refine wpList_stp (stp_call hF (wanted_of hF rfl rfl (rfl)) rfl rfl Tryd.ok18 rfl (Evs.cons (hF.t rfl) Evs.nil) (left0_ok (hS.cell (k := 0) (i := 4) rfl rfl) (hS.cell (k := 0) (i := 5) rfl rfl)) fun e w h => ?_)
 obtain ⟨rfl, hx⟩ := h
 refine ⟨_, rfl, fun a hF => ?_⟩
 replace hS := hS.ext hx
 clear hx
 refine wpList_stp (stp_gv hF (wanted_of hF rfl rfl (rfl)) rfl rfl (gv_not rfl (hF.t rfl)) fun a hF => ?_)
 refine wg hF rfl rfl rfl (gv_pickT rfl (hF.t rfl) (hF.t rfl)) fun a hF => ?_
 refine wg hF rfl rfl rfl (gv_assign rfl (hF.t rfl)) fun a hF => ?_
 refine wN ?_
 refine tN (hKq7 _ _ ?_)
 refine wp_ret ?_
 refine ret1 (fn := Tryd.f14) (t := 0) hF rfl rfl ?_
 exact ⟨rfl, hS.toExt (nw_cons rfl (nw_cons rfl (nw_cons rfl (nw_cons rfl (nw_cons rfl (nw_cons rfl (nw_cons rfl (nw_cons rfl nw_nil))))))))⟩
end Go.Proofs.YtfhalnobaeogkaaDoor
set_option linter.unusedVariables false
set_option linter.unusedSimpArgs false
namespace Go.Proofs.YtfhalnobaeogkaaDoor
open Go Go.RowKit Go.Fw
theorem Tryd.ok51 : CallOk Tryd.prog 51 := ⟨_, Tryd.func51, by kernel_rfl, by kernel_rfl⟩
end Go.Proofs.YtfhalnobaeogkaaDoor
set_option linter.unusedVariables false
set_option linter.unusedSimpArgs false
namespace Go.Proofs.YtfhalnobaeogkaaDoor
open Go Go.RowKit Go.Fw
structure KS where
 K : List UInt8
 C : List UInt8
 L : List UInt8
 ml : List UInt8
structure HT where
 seq : UInt32
 n : Nat
 key : Option KS
abbrev kbE (okb : Option Nat) (B : List UInt8) : Ent := ⟨true, okb, blkB 129 B⟩
abbrev macE (m : Nat) (ml : List UInt8) (mp : List Value) : Ent := ⟨true, some m, blk 5 (ml.map vB ++ mp)⟩
abbrev rowE (g : Option Nat) (l : List UInt8) (gp : List Value) : Ent := ⟨true, g, blk 5 (l.map vB ++ gp)⟩
inductive WShape (w00 : World) (b : Nat) : HT → List Ent → Prop
 | plain (seq : UInt32) (n : Nat) : WShape w00 b ⟨seq, n, none⟩ [⟨true, some b, wrt seq (.pointer none) (.slice none 0 0) n⟩]
 | keyed (seq : UInt32) (n : Nat) (K C L ml : List UInt8) (s m : Nat) (mp : List Value) (okb : Option Nat) (B : List UInt8) (lv : Value) (hK : K.length = 176) (hC : C.length = 16) (hml : ml.length = 32) (hm : 32 + mp.length ≤ 9223372036854775807) (hL : SRd w00 [kbE okb B] lv (L.map vB)) :
   WShape w00 b ⟨seq, n, some ⟨K, C, L, ml⟩⟩ [⟨true, some b, wrt seq (.pointer (some ⟨s, 0, none⟩)) (.slice (some ⟨m, 0, none⟩) 32 (32 + mp.length)) n⟩, ⟨true, some s, strm K C lv⟩, kbE okb B, macE m ml mp]
theorem WShape.nw {w00 : World} {b : Nat} {h : HT} {X : List Ent} (hX : WShape w00 b h X) : ∀ e ∈ X, e.nw = true := by
 cases hX with
 | plain => exact nw_cons rfl nw_nil
 | keyed => exact nw_cons rfl (nw_cons rfl (nw_cons rfl (nw_cons rfl nw_nil)))
theorem nw_app {X Y : List Ent} (h1 : ∀ e ∈ X, e.nw = true) (h2 : ∀ e ∈ Y, e.nw = true) : ∀ e ∈ X ++ Y, e.nw = true := fun e he => (List.mem_append.1 he).elim (h1 e) (h2 e)
theorem cellIn {w0 w : World} {H : List Ent} {b i : Nat} {nw : Bool} {t : TypeId} {cs : List Value} {v : Value} (h : St w0 w H) (he : (⟨nw, some b, blk t cs⟩ : Ent) ∈ H) (hv : cs[i]? = some v) : w.cell? ⟨b, i, none⟩ = some v := by
 obtain ⟨k, hk⟩ := List.getElem?_of_mem he
 exact h.cell hk hv
theorem WShape.cells {w00 w : World} {b : Nat} {h : HT} {X H : List Ent} (hX : WShape w00 b h X) (hS : St w00 w H) (hsub : ∀ e ∈ X, e ∈ H) : w.cell? ⟨b, 0, none⟩ = some (vW h.seq) ∧ w.cell? ⟨b, 3, none⟩ = some (vI h.n) := by
 cases hX with
 | plain => exact ⟨cellIn hS (hsub _ List.mem_cons_self) rfl, cellIn hS (hsub _ List.mem_cons_self) rfl⟩
 | keyed => exact ⟨cellIn hS (hsub _ List.mem_cons_self) rfl, cellIn hS (hsub _ List.mem_cons_self) rfl⟩
def takeH (h : HT) (c : UInt8) : HT := ⟨h.seq, 0, some ⟨keys (kKey c), kIv c, [], kMac c⟩⟩
theorem take_w {w00 w : World} {b kb : Nat} {c : UInt8} {h : HT} {X T : List Ent} (hX : WShape w00 b h X) (hT : ∀ e ∈ T, e.nw = true) (hS : St w00 w (X ++ T)) (hk : ⟨true, some kb, blkB 5 (kbs c 64)⟩ ∈ T) :
  Calls Tryd.prog 19 #[.pointer (some ⟨b, 0, none⟩), .agg (keyV kb)] w fun e w' => e = .returned (.int .i64 0) ∧ ∃ X', WShape w00 b (takeH h c) X' ∧ St w00 w' (X' ++ T) := by
 obtain ⟨k1, k2, k3⟩ := key_srd (w0 := w00) hk
 have fin : ∀ (seq : UInt32) (n : Nat) (key : Option KS) (st mac : Value) (X1 : List Ent), (∀ e ∈ X1, e.nw = true) → St w00 w (⟨true, some b, wrt seq st mac n⟩ :: (X1 ++ T)) →
   Calls Tryd.prog 19 #[.pointer (some ⟨b, 0, none⟩), .agg (keyV kb)] w fun e w' => e = .returned (.int .i64 0) ∧ ∃ X', WShape w00 b (takeH ⟨seq, n, key⟩ c) X' ∧ St w00 w' (X' ++ T) := fun seq n key st mac X1 hX1 hS => by
  have hm : ∀ e ∈ T, e ∈ X1 ++ T := fun e he => List.mem_append_right _ he
  refine (hand_ok (tt := 37) (seq := seq) (st := st) (mac := mac) (n := n) (rest := []) (nw_app hX1 hT) hS (k1.mono hm) (k2.mono hm) (k3.mono hm) (kKey_len c) (kIv_len c) (kMac_len c)).mono fun e w' g => ?_
  obtain ⟨he, s, m, mp, mc, hS⟩ := g
  refine ⟨he, _, WShape.keyed seq 0 (keys (kKey c)) (kIv c) [] (kMac c) s m mp none [] (.slice none 0 0) (keys_len _) (kIv_len c) (kMac_len c) mc nil_left, ?_⟩
  have hS1 : St w00 w' (X1 ++ ([⟨true, some b, wrt seq (.pointer (some ⟨s, 0, none⟩)) (.slice (some ⟨m, 0, none⟩) 32 (32 + mp.length)) 0⟩, ⟨true, some s, strm (keys (kKey c)) (kIv c) (.slice none 0 0)⟩, nokb, macE m (kMac c) mp] ++ T)) := by
   have h1 := (hS.move (k := 3) rfl).move (k := 3) rfl
   have h2 := h1.move (k := 2) rfl
   exact h2.perm (List.perm_append_comm_assoc [_, _, _, _] X1 T)
  exact hS1.fewer hX1
 cases hX with
 | plain seq n => exact fin seq n none _ _ [] nw_nil hS
 | keyed seq n K C L ml s m mp okb B lv => exact fin seq n (some ⟨K, C, L, ml⟩) _ _ [_, _, _] (nw_cons rfl (nw_cons rfl (nw_cons rfl nw_nil))) hS
def stepG (h : HT) (pl dl : List UInt8) : HT := ⟨h.seq + 1, h.n + 1, h.key.map fun k => ⟨k.K, (kst k.K (k.C, k.L) (pktF h.seq pl dl 16).length).1, (kst k.K (k.C, k.L) (pktF h.seq pl dl 16).length).2, k.ml⟩⟩
def pktG (h : HT) (pl dl : List UInt8) : List UInt8 := match h.key with
 | none => pktF h.seq pl dl 8
 | some k => pktK h.seq pl dl k.K k.C k.L k.ml
theorem write_g {w00 w : World} {b : Nat} {h : HT} {X T : List Ent} {pv : Value} {pl dl : List UInt8} (hG : Glob w00) (hX : WShape w00 b h X) (hT : ∀ e ∈ T, e.nw = true) (hS : St w00 w (X ++ T)) (hPl : SRd w00 T pv (pl.map vB)) (h1 : 1 ≤ pl.length) (h2 : pl.length ≤ 2048) (hd : dl.length ≤ 274877906944) (hn : h.n ≤ 4611686018427387904) :
  Calls Tryd.prog 15 #[.pointer (some ⟨b, 0, none⟩), pv, sV dl] w fun e w' => ∃ v X', e = .returned (.tuple #[v, .int .i64 0]) ∧ WShape w00 b (stepG h pl dl) X' ∧ ownP w00 5 (X' ++ T) (pktG h pl dl) v w' := by
 cases hX with
 | plain seq n =>
  refine (write0_ok hG hT hS hPl h1 h2 hd hn).mono fun e w' g => ?_
  obtain ⟨v, he, dd, o, op, hv, ho, hc, hS⟩ := g
  exact ⟨v, _, he, WShape.plain (seq + 1) (n + 1), o, op, hv, ho, hc, (hS.move (k := 1) rfl).drop rfl⟩
 | keyed seq n K C L ml s m mp okb B lv hK hC hml hm hL =>
  refine (write1_ok (T0 := macE m ml mp :: T) hG (nw_cons rfl hT) hS hL hK hC (hPl.mono fun e he => List.mem_cons_of_mem _ he) (own_rd (ob := some m) List.mem_cons_self (fun h => by cases h) hml hm) hml h1 h2 hd hn).mono fun e w' g => ?_
  obtain ⟨v, lv1, okb1, B1, he, hO, hL1⟩ := g
  exact ⟨v, _, he, WShape.keyed (seq + 1) (n + 1) K (kst K (C, L) (pktF seq pl dl 16).length).1 (kst K (C, L) (pktF seq pl dl 16).length).2 ml s m mp okb1 B1 lv1 hK (kst_len (s := (C, L)) hC _) hml hm hL1, hO⟩
end Go.Proofs.YtfhalnobaeogkaaDoor
set_option linter.unusedVariables false
set_option linter.unusedSimpArgs false
namespace Go.Proofs.YtfhalnobaeogkaaDoor
open Go Go.RowKit Go.Fw
theorem Tryd.ok72 : CallOk Tryd.prog 72 := ⟨_, Tryd.func72, by kernel_rfl, by kernel_rfl⟩
theorem Tryd.ok73 : CallOk Tryd.prog 73 := ⟨_, Tryd.func73, by kernel_rfl, by kernel_rfl⟩
theorem byts_drop {kl cl : List UInt8} {at_ : Nat} {bl : List UInt8} : xr bl ((byts kl cl (at_ + bl.length)).drop at_) bl.length = turned kl cl at_ bl := by
 refine ext_getD (by rw [xr_len, turned_len]) fun i hi => ?_
 rw [xr_len] at hi
 rw [turned_at hi, xr, List.getD_eq_getElem?_getD, List.getElem?_map, List.getElem?_eq_getElem (by simpa using hi)]
 simp only [List.getElem_range, Option.map_some, Option.getD_some]
 rw [getD_drp, byts_at (by omega)]
theorem rturn_own {av bv : Value} {al bl : List UInt8} {w0 : World} (hav : Rd w0 av (al.map vB)) (hbv : Rd w0 bv (bl.map vB)) (hl : al.length ≤ bl.length) (hn : al.length ≤ 1099511627776) :
  Calls Tryd.prog 73 #[av, bv] w0 fun e w' => ∃ o op, e = .returned (ownV o (xr al bl al.length).length ((xr al bl al.length).length + op.length)) ∧ (o = none → (xr al bl al.length) = [] ∧ op = []) ∧ ((xr al bl al.length)).length + op.length ≤ 9223372036854775807 ∧ St w0 w' [⟨true, o, blk 5 ((xr al bl al.length).map vB ++ op)⟩] := by
 obtain ⟨Aa, ca, rfl, ha1, ha2, hac⟩ := hav.isB
 obtain ⟨Ab, cb, rfl, hb1, hb2, hbc⟩ := hbv.isB
 refine calls_start 26 Tryd.func73 rfl Tryd.ntmps73 rfl fun a hF => ?_
 have hS := St.refl w0
 replace hS := hS.addNil (blk 5 ([] ++ []))
 refine wK fun Kq1 hKq1 => ?_
 refine wR ?_
 refine wg hF rfl rfl rfl (gv_assign rfl (ev_const _ _)) fun a hF => ?_
 refine wN ?_
 refine tN (hKq1 _ _ ?_)
 refine wK fun Kq2 hKq2 => ?_
 refine wR ?_
 refine wg hF rfl rfl rfl (gv_assign rfl (ev_const _ _)) fun a hF => ?_
 refine wN ?_
 refine tN (hKq2 _ _ ?_)
 refine wK fun Kq3 hKq3 => ?_
 refine wK fun Kq4 hKq4 => ?_
 refine wR ?_
 refine wg hF rfl rfl rfl (gv_assign rfl (ev_const _ _)) fun a hF => ?_
 refine wN ?_
 refine tN (hKq4 _ _ ?_)
 refine wp_block ?_
 refine wp_loop_n (fun n a w => ∃ k ob pad, k ≤ al.length ∧ n = al.length - k ∧ (ob = none → k = 0 ∧ pad = []) ∧ k + pad.length ≤ 9223372036854775807 ∧ Fr 26 a [(0, .slice Aa al.length ca), (1, .slice Ab bl.length cb), (5, ownV ob k (k + pad.length)), (6, vI k)] ∧ St w0 w [⟨true, ob, blk 5 ((xr al bl k).map vB ++ pad)⟩]) al.length ⟨0, none, [], by omega, by omega, fun _ => ⟨rfl, rfl⟩, by simp, hF.sub ⟨rfl, rfl, rfl, rfl, trivial⟩, hS⟩ ?_
 rintro n a w ⟨k, ob, pad, hk, hn, hob, hcap, hF, hS⟩
 refine wK fun Kq5 hKq5 => ?_
 refine wK fun Kq6 hKq6 => ?_
 refine wR ?_
 refine wg hF rfl rfl rfl (gv_move rfl (hF.t rfl)) fun a hF => ?_
 refine wg hF rfl rfl rfl (gv_move rfl (hF.t rfl)) fun a hF => ?_
 refine wg hF rfl rfl rfl (gv_len rfl u22 (hF.t rfl)) fun a hF => ?_
 refine wg hF rfl rfl rfl (gv_lss rfl (hF.t rfl) (hF.t rfl)) fun a hF => ?_
 refine wN ?_
 refine tN (hKq6 _ _ ?_)
 refine cond_dec (hF.t rfl) (fun h10 => ?_) (fun h10 => ?_)
 ·
  obtain ⟨ba, oa, rfl, hac⟩ := hac (by omega)
  obtain ⟨bb, oB, rfl, hbc⟩ := hbc (by omega)
  refine wp_skip ?_
  refine tN (hKq5 _ _ ?_)
  refine wK fun Kq7 hKq7 => ?_
  refine wp_block ?_
  refine Fw.wp_region_draw (by kernel_rfl) fun w hx => ?_
  replace hS := hS.ext hx
  clear hx
  refine run_head1 (n := 11) _ 10 23 _ (FlS w 5 1 [vB (al.getD k 0 ^^^ bl.getD k 0)]) hF (by kernel_rfl) rfl rfl rfl (FlS.lasts w 5 1 [vB (al.getD k 0 ^^^ bl.getD k 0)]) ?_ (by omega) (by omega)
  refine dg hF rfl rfl rfl rfl (fun w hx => gv_move rfl (hF.t rfl)) fun a hF => ?_
  refine dg hF rfl rfl rfl rfl (fun w hx => gv_move rfl (hF.t rfl)) fun a hF => ?_
  refine dg hF rfl rfl rfl rfl (fun w hx => gv_move rfl (hF.t rfl)) fun a hF => ?_
  refine dg hF rfl rfl rfl rfl (fun w hx => gv_indexSl rfl u22 z5 (hF.t rfl) (hF.t rfl) (by omega)) fun a hF => ?_
  refine dg hF rfl rfl rfl rfl (fun w hx => gv_load rfl u5 rfl (hF.t rfl) (cell_ix ((hav.ext (((hS.ext hx)).toExt (nw_cons rfl nw_nil))).cellB k (by omega)) (by omega))) fun a hF => ?_
  refine dg hF rfl rfl rfl rfl (fun w hx => gv_move rfl (hF.t rfl)) fun a hF => ?_
  refine dg hF rfl rfl rfl rfl (fun w hx => gv_move rfl (hF.t rfl)) fun a hF => ?_
  refine dg hF rfl rfl rfl rfl (fun w hx => gv_indexSl rfl u22 z5 (hF.t rfl) (hF.t rfl) (by omega)) fun a hF => ?_
  refine dg hF rfl rfl rfl rfl (fun w hx => gv_load rfl u5 rfl (hF.t rfl) (cell_ix ((hbv.ext (((hS.ext hx)).toExt (nw_cons rfl nw_nil))).cellB k (by omega)) (by omega))) fun a hF => ?_
  refine dg hF rfl rfl rfl rfl (fun w hx => gv_b_xor rfl (hF.t rfl) (hF.t rfl)) fun a hF => ?_
  refine dw_fl rfl ?_
  refine dw_nil ⟨fo_build1 rfl u22 Tryd.ty5 (hF.t rfl), fun a w v hR hA hx => ?_⟩
  obtain ⟨one, rfl, hR1, hR2⟩ := hR
  replace hF := hA _ hF
  replace hS := hS.float hx hR1 hR2
  clear hA hx hR1 hR2
  have hR : Rd w (.slice (some ⟨one, 0, none⟩) 1 1) [vB (al.getD k 0 ^^^ bl.getD k 0)] := hS.rdOf (k := 0) rfl 0 1 1 (by simp) (by omega) (by omega)
  refine run_stp (by kernel_rfl) rfl (stp_append (ob := ob) (xs := (xr al bl k).map vB) (pad := pad) (k := 1) hF (wanted_none rfl) rfl rfl rfl u22 Tryd.ty5 rfl (by rw [List.length_map, xr_len]; exact hF.t rfl) (hF.t rfl) hS rfl (fun h => ⟨by rw [(hob h).1]; rfl, (hob h).2⟩) (by rw [List.length_map, xr_len]; exact hcap) hR (one_B [_]) (by simp [xr_len]; omega) (by simp [xr_len]; omega) fun ob pad a w hF hob hcap hS => ?_)
  simp only [List.length_map, xr_len, List.length_cons, List.length_nil, Nat.zero_add, xr_app, List.map_eq_nil_iff] at hF hS hob hcap
  refine run_stp (by kernel_rfl) rfl (stp_gv hF (wanted_none rfl) rfl rfl (gv_assign rfl (hF.t rfl)) fun a hF => ?_)
  refine run_done (by decide) ?_
  refine block_normal ?_
  refine tN (hKq7 _ _ ?_)
  refine wR ?_
  refine wg hF rfl rfl rfl (gv_move rfl (hF.t rfl)) fun a hF => ?_
  refine wg hF rfl rfl rfl (gv_nadd (n := 1) rfl (hF.t rfl) rfl (by omega)) fun a hF => ?_
  refine wg hF rfl rfl rfl (gv_assign rfl (hF.t rfl)) fun a hF => ?_
  refine wN ?_
  refine then_normal ?_
  exact ⟨n - 1, by omega, k + 1, ob, pad, by omega, by omega, fun h => absurd (congrArg List.length (hob h).1) (by simp [xr_len]), hcap, hF.sub ⟨rfl, rfl, rfl, rfl, trivial⟩, hS.drop rfl⟩
 ·
  refine wp_exit ?_
  refine then_exit ?_
  refine then_exit ?_
  refine block_exit ?_
  refine tN (hKq3 _ _ ?_)
  refine wK fun Kq8 hKq8 => ?_
  refine wR ?_
  refine wg hF rfl rfl rfl (gv_move rfl (hF.t rfl)) fun a hF => ?_
  refine wg hF rfl rfl rfl (gv_assign rfl (hF.t rfl)) fun a hF => ?_
  refine wN ?_
  refine tN (hKq8 _ _ ?_)
  refine wp_ret ?_
  refine ret1 (fn := Tryd.f73) (t := 4) hF rfl rfl ?_
  obtain rfl : k = al.length := by omega
  rw [xr_len]
  exact ⟨ob, pad, rfl, fun h => ⟨List.length_eq_zero_iff.1 (by rw [xr_len, (hob h).1]), (hob h).2⟩, hcap, hS⟩
theorem hunit_nil {h c : Nat} {w0 : World} (h0 : w0.cell? ⟨h, 0, none⟩ = some (.slice none 0 c)) :
  Calls Tryd.prog 53 #[.pointer (some ⟨h, 0, none⟩)] w0 fun e w' => e = .returned (vI 8) ∧ Ext w0 w' := by
 refine calls_start 8 Tryd.func53 rfl Tryd.ntmps53 rfl fun a hF => ?_
 refine wK fun Kq1 hKq1 => ?_
 refine wR ?_
 refine wg hF rfl rfl rfl (gv_assign rfl (ev_const _ _)) fun a hF => ?_
 refine wN ?_
 refine tN (hKq1 _ _ ?_)
 refine wK fun Kq2 hKq2 => ?_
 refine wK fun Kq3 hKq3 => ?_
 refine wR ?_
 refine wg hF rfl rfl rfl (gv_move rfl (hF.t rfl)) fun a hF => ?_
 refine wg hF rfl rfl rfl (gv_nilCheck rfl (hF.t rfl)) fun a hF => ?_
 refine wg hF rfl rfl rfl (gv_field (r := 0) rfl u50 rfl rfl z22 (by decide) (hF.t rfl)) fun a hF => ?_
 refine wg hF rfl rfl rfl (gv_load rfl u22 rfl (hF.t rfl) (cell_ix h0 (by omega))) fun a hF => ?_
 refine wg hF rfl rfl rfl (gv_eqlNilS rfl u22 (hF.t rfl) (ev_const _ _)) fun a hF => ?_
 refine wN ?_
 refine tN (hKq3 _ _ ?_)
 refine wp_cond_true (hF.t rfl) ?_
 refine wK fun Kq4 hKq4 => ?_
 refine wR ?_
 refine wg hF rfl rfl rfl (gv_assign rfl (ev_const _ _)) fun a hF => ?_
 refine wN ?_
 refine tN (hKq4 _ _ ?_)
 refine wp_ret ?_
 refine then_ret ?_
 refine ret1 (fn := Tryd.f53) (t := 2) hF rfl rfl ?_
 exact ⟨rfl, Ext.refl _⟩
theorem hunit_key {h b o m c : Nat} {w0 : World} (h0 : w0.cell? ⟨h, 0, none⟩ = some (.slice (some ⟨b, o, none⟩) m c)) :
  Calls Tryd.prog 53 #[.pointer (some ⟨h, 0, none⟩)] w0 fun e w' => e = .returned (vI 16) ∧ Ext w0 w' := by
 refine calls_start 8 Tryd.func53 rfl Tryd.ntmps53 rfl fun a hF => ?_
 refine wK fun Kq1 hKq1 => ?_
 refine wR ?_
 refine wg hF rfl rfl rfl (gv_assign rfl (ev_const _ _)) fun a hF => ?_
 refine wN ?_
 refine tN (hKq1 _ _ ?_)
 refine wK fun Kq2 hKq2 => ?_
 refine wK fun Kq3 hKq3 => ?_
 refine wR ?_
 refine wg hF rfl rfl rfl (gv_move rfl (hF.t rfl)) fun a hF => ?_
 refine wg hF rfl rfl rfl (gv_nilCheck rfl (hF.t rfl)) fun a hF => ?_
 refine wg hF rfl rfl rfl (gv_field (r := 0) rfl u50 rfl rfl z22 (by decide) (hF.t rfl)) fun a hF => ?_
 refine wg hF rfl rfl rfl (gv_load rfl u22 rfl (hF.t rfl) (cell_ix h0 (by omega))) fun a hF => ?_
 refine wg hF rfl rfl rfl (gv_eqlNilS rfl u22 (hF.t rfl) (ev_const _ _)) fun a hF => ?_
 refine wN ?_
 refine tN (hKq3 _ _ ?_)
 refine wp_cond_false (hF.t rfl) ?_
 refine wp_skip ?_
 refine tN (hKq2 _ _ ?_)
 refine wK fun Kq4 hKq4 => ?_
 refine wR ?_
 refine wg hF rfl rfl rfl (gv_assign rfl (ev_const _ _)) fun a hF => ?_
 refine wN ?_
 refine tN (hKq4 _ _ ?_)
 refine wp_ret ?_
 refine ret1 (fn := Tryd.f53) (t := 2) hF rfl rfl ?_
 exact ⟨rfl, Ext.refl _⟩
theorem hturn_ok {w00 w : World} {T : List Ent} {h at_ sq n : Nat} {tt : TypeId} {kv iv mv : Value} {rest : List Value} {bv : Value} {kl il bl : List UInt8} (hT : ∀ e ∈ T, e.nw = true) (hS : St w00 w (⟨true, some h, blk tt (kv :: iv :: mv :: vI at_ :: vI sq :: vI n :: rest)⟩ :: T)) (hk : SRd w00 T kv (kl.map vB)) (hi : SRd w00 T iv (il.map vB)) (hkl : kl.length = 16) (hil : il.length = 16) (hb : SRd w00 T bv (bl.map vB)) (hbl : bl.length ≤ 1048576) (hat : at_ ≤ 1073741824) :
  Calls Tryd.prog 57 #[.pointer (some ⟨h, 0, none⟩), bv] w fun e w' => ∃ o op, e = .returned (ownV o bl.length (bl.length + op.length)) ∧ (o = none → turned kl il at_ bl = [] ∧ op = []) ∧ bl.length + op.length ≤ 9223372036854775807 ∧ St w00 w' (⟨true, o, blk 5 ((turned kl il at_ bl).map vB ++ op)⟩ :: ⟨true, some h, blk tt (kv :: iv :: mv :: vI (at_ + bl.length) :: vI sq :: vI n :: rest)⟩ :: T) := by
 obtain ⟨Ab, cb, rfl, hb1, hb2, _⟩ := (hb w _ hS (nw_cons rfl hT) (fun e he => List.mem_cons_of_mem _ he)).isB
 refine calls_start 41 Tryd.func57 rfl Tryd.ntmps57 rfl fun a hF => ?_
 refine wK fun Kq1 hKq1 => ?_
 refine wR ?_
 refine wg hF rfl rfl rfl (gv_assign rfl (ev_const _ _)) fun a hF => ?_
 refine wN ?_
 refine tN (hKq1 _ _ ?_)
 refine wK fun Kq2 hKq2 => ?_
 refine Fw.wp_region_draw (by kernel_rfl) fun w hx => ?_
 replace hS := hS.ext hx
 clear hx
 refine run_swalk _ 0 17 [15] [] _ (by kernel_rfl) (by kernel_rfl) rfl hF.size ?_
 have hO := hS
 clear hS
 have hS := St.refl w
 refine sg hF rfl rfl rfl rfl (fun w hx => gv_move rfl (hF.t rfl)) fun a hF => ?_
 refine sg hF rfl rfl rfl rfl (fun w hx => gv_nilCheck rfl (hF.t rfl)) fun a hF => ?_
 refine sg hF rfl rfl rfl rfl (fun w hx => gv_field (r := 0) rfl u50 rfl rfl z22 (by decide) (hF.t rfl)) fun a hF => ?_
 refine sg hF rfl rfl rfl rfl (fun w hx => gv_load rfl u22 rfl (hF.t rfl) (cell_ix (j := 0) ((hO.ext hx).cell (k := 0) rfl (rfl)) (by omega))) fun a hF => ?_
 refine sg hF rfl rfl rfl rfl (fun w hx => gv_move rfl (hF.t rfl)) fun a hF => ?_
 refine sg hF rfl rfl rfl rfl (fun w hx => gv_nilCheck rfl (hF.t rfl)) fun a hF => ?_
 refine sg hF rfl rfl rfl rfl (fun w hx => gv_field (r := 1) rfl u50 rfl rfl z22 (by decide) (hF.t rfl)) fun a hF => ?_
 refine sg hF rfl rfl rfl rfl (fun w hx => gv_load rfl u22 rfl (hF.t rfl) (cell_ix (j := 1) ((hO.ext hx).cell (k := 0) rfl (rfl)) (by omega))) fun a hF => ?_
 refine sg hF rfl rfl rfl rfl (fun w hx => gv_move rfl (hF.t rfl)) fun a hF => ?_
 refine sg hF rfl rfl rfl rfl (fun w hx => gv_nilCheck rfl (hF.t rfl)) fun a hF => ?_
 refine sg hF rfl rfl rfl rfl (fun w hx => gv_field (r := 3) rfl u50 rfl rfl z3 (by decide) (hF.t rfl)) fun a hF => ?_
 refine sg hF rfl rfl rfl rfl (fun w hx => gv_load rfl u3 rfl (hF.t rfl) (cell_ix (j := 3) ((hO.ext hx).cell (k := 0) rfl (rfl)) (by omega))) fun a hF => ?_
 refine sg hF rfl rfl rfl rfl (fun w hx => gv_move rfl (hF.t rfl)) fun a hF => ?_
 refine sg hF rfl rfl rfl rfl (fun w hx => gv_len rfl u22 (hF.t rfl)) fun a hF => ?_
 refine sg hF rfl rfl rfl rfl (fun w hx => gv_nadd rfl (hF.t rfl) (hF.t rfl) (by omega)) fun a hF => ?_
 refine sw_eff rfl (stp_call hF (wanted_none rfl) rfl rfl Tryd.ok72 rfl (Evs.cons (hF.t rfl) (Evs.cons (hF.t rfl) (Evs.cons (hF.t rfl) Evs.nil))) (rbytes_ok (n := at_ + bl.length) (hk _ _ (hO.ext (hS.toExt nw_nil)) (nw_cons rfl hT) (fun e he => List.mem_cons_of_mem _ he)) (hi _ _ (hO.ext (hS.toExt nw_nil)) (nw_cons rfl hT) (fun e he => List.mem_cons_of_mem _ he)) hkl hil (by omega)) fun e w h => ?_)
 obtain ⟨sv, rfl, hsv, hx⟩ := h
 refine ⟨_, rfl, fun a hF => ?_⟩
 replace hS := hS.ext hx
 refine ⟨hS.toExt nw_nil, ?_⟩
 refine sg hF rfl rfl rfl rfl (fun w hx => gv_assign rfl (hF.t rfl)) fun a hF => ?_
 refine sw_nil ?_
 clear hx
 replace hS := hO.join hS nw_nil
 simp only [List.cons_append, List.nil_append] at hS
 clear hO
 refine run_done (by decide) ?_
 refine tN (hKq2 _ _ ?_)
 refine wK fun Kq3 hKq3 => ?_
 obtain ⟨As, cs, rfl, _, _, _⟩ := hsv.isB
 refine wR ?_
 refine wg hF rfl rfl rfl (gv_move rfl (hF.t rfl)) fun a hF => ?_
 refine wg hF rfl rfl rfl (gv_move rfl (hF.t rfl)) fun a hF => ?_
 refine wg hF rfl rfl rfl (gv_move rfl (hF.t rfl)) fun a hF => ?_
 refine wg hF rfl rfl rfl (gv_nilCheck rfl (hF.t rfl)) fun a hF => ?_
 refine wg hF rfl rfl rfl (gv_field (r := 3) rfl u50 rfl rfl z3 (by decide) (hF.t rfl)) fun a hF => ?_
 refine wg hF rfl rfl rfl (gv_load rfl u3 rfl (hF.t rfl) (cell_ix (j := 3) (hS.cell (k := 0) rfl (rfl)) (by omega))) fun a hF => ?_
 refine wg hF rfl rfl rfl (gv_sliceLo rfl u22 z5 (hF.t rfl) (hF.t rfl) (by rw [byts_len]; omega)) fun a hF => ?_
 have hcut : Rd w (cutV As (byts kl il (at_ + bl.length)).length cs at_) (((byts kl il (at_ + bl.length)).drop at_).map vB) := by
  have := hsv.cutLo (lo := at_) (by rw [byts_len]; omega)
  rwa [← List.map_drop] at this
 refine wpList_stp (stp_call hF (wanted_none rfl) rfl rfl Tryd.ok73 rfl (Evs.cons (hF.t rfl) (Evs.cons (hF.t rfl) Evs.nil)) (rturn_own (al := bl) (bl := (byts kl il (at_ + bl.length)).drop at_) (hb w _ hS (nw_cons rfl hT) (fun e he => List.mem_cons_of_mem _ he)) hcut (by rw [List.length_drop, byts_len]; omega) (by omega)) fun e w h => ?_)
 obtain ⟨o, op, rfl, oo, oc, hN⟩ := h
 refine ⟨_, rfl, fun a hF => ?_⟩
 replace hS := hS.join hN (nw_cons rfl nw_nil)
 simp only [List.cons_append, List.nil_append] at hS
 clear hN
 rw [byts_drop] at hF hS oo oc
 rw [turned_len] at hF oc
 refine wg hF rfl rfl rfl (gv_assign rfl (hF.t rfl)) fun a hF => ?_
 refine wN ?_
 refine tN (hKq3 _ _ ?_)
 refine wK fun Kq4 hKq4 => ?_
 refine wR ?_
 refine wg hF rfl rfl rfl (gv_move rfl (hF.t rfl)) fun a hF => ?_
 refine wg hF rfl rfl rfl (gv_nilCheck rfl (hF.t rfl)) fun a hF => ?_
 refine wg hF rfl rfl rfl (gv_field (r := 3) rfl u50 rfl rfl z3 (by decide) (hF.t rfl)) fun a hF => ?_
 refine wg hF rfl rfl rfl (gv_load rfl u3 rfl (hF.t rfl) (cell_ix (j := 3) (hS.cell (k := 1) rfl (rfl)) (by omega))) fun a hF => ?_
 refine wg hF rfl rfl rfl (gv_move rfl (hF.t rfl)) fun a hF => ?_
 refine wg hF rfl rfl rfl (gv_len rfl u22 (hF.t rfl)) fun a hF => ?_
 refine wg hF rfl rfl rfl (gv_nadd rfl (hF.t rfl) (hF.t rfl) (by omega)) fun a hF => ?_
 refine wg hF rfl rfl rfl (gv_nilCheck rfl (hF.t rfl)) fun a hF => ?_
 refine wg hF rfl rfl rfl (gv_field (r := 3) rfl u50 rfl rfl z3 (by decide) (hF.t rfl)) fun a hF => ?_
 refine wpList_stp (stp_storeAt (3) hF (wanted_none rfl) rfl rfl z3 (hF.t rfl) (by omega) (hF.t rfl) rfl hS (k := 1) rfl (by simp) fun w hS => ?_)
 refine wN ?_
 refine tN (hKq4 _ _ ?_)
 refine wK fun Kq5 hKq5 => ?_
 refine wR ?_
 refine wg hF rfl rfl rfl (gv_move rfl (hF.t rfl)) fun a hF => ?_
 refine wg hF rfl rfl rfl (gv_assign rfl (hF.t rfl)) fun a hF => ?_
 refine wN ?_
 refine tN (hKq5 _ _ ?_)
 refine wp_ret ?_
 refine ret1 (fn := Tryd.f57) (t := 4) hF rfl rfl ?_
 exact ⟨o, op, rfl, oo, oc, hS⟩
end Go.Proofs.YtfhalnobaeogkaaDoor
set_option linter.unusedVariables false
set_option linter.unusedSimpArgs false
namespace Go.Proofs.YtfhalnobaeogkaaDoor
open Go Go.RowKit Go.Fw
theorem Tryd.ok53 : CallOk Tryd.prog 53 := ⟨_, Tryd.func53, by kernel_rfl, by kernel_rfl⟩
theorem Tryd.ok55 : CallOk Tryd.prog 55 := ⟨_, Tryd.func55, by kernel_rfl, by kernel_rfl⟩
theorem Tryd.ok56 : CallOk Tryd.prog 56 := ⟨_, Tryd.func56, by kernel_rfl, by kernel_rfl⟩
theorem Tryd.ok57 : CallOk Tryd.prog 57 := ⟨_, Tryd.func57, by kernel_rfl, by kernel_rfl⟩
theorem Tryd.ok71 : CallOk Tryd.prog 71 := ⟨_, Tryd.func71, by kernel_rfl, by kernel_rfl⟩
theorem stNil {w0 w : World} {b : Nat} {t : TypeId} {l : List UInt8} {T : List Ent} (h : St w0 w (⟨true, some b, blkB t l⟩ :: T)) : St w0 w (⟨true, some b, blk t (l.map vB ++ [])⟩ :: T) := by rw [List.append_nil]; exact h
theorem ext_cellQ {w w' : World} {b i : Nat} {v : Value} (hx : Ext w w') (h : w.cell? ⟨b, i, none⟩ = some v) : w'.cell? ⟨b, i, none⟩ = some v := (cell_same (hx.block b (cell_lt h))).trans h
theorem padn8 {L p : Nat} (h4 : 4 ≤ p) (hp : p ≤ padn L 8) : ((5 + L + p) % 8 = 0) ↔ p = padn L 8 := by
 by_cases h : 8 - (5 + L) % 8 < 4
 ·
  rw [show padn L 8 = _ from if_pos h] at hp ⊢
  omega
 ·
  rw [show padn L 8 = _ from if_neg h] at hp ⊢
  omega
theorem padn16 {L p : Nat} (h4 : 4 ≤ p) (hp : p ≤ padn L 16) : ((5 + L + p) % 16 = 0) ↔ p = padn L 16 := by
 by_cases h : 16 - (5 + L) % 16 < 4
 ·
  rw [show padn L 16 = _ from if_pos h] at hp ⊢
  omega
 ·
  rw [show padn L 16 = _ from if_neg h] at hp ⊢
  omega
theorem u64_32 {n : Nat} (h : n < 4294967296) : (UInt32.ofNat n).toUInt64 = UInt64.ofNat n := by
 apply UInt64.toNat_inj.1
 rw [UInt32.toNat_toUInt64, UInt32.toNat_ofNat', UInt64.toNat_ofNat']
 omega
theorem hcode_ok {h sq : Nat} {mv pv : Value} {ml pl : List UInt8} {w0 : World} (h2 : w0.cell? ⟨h, 2, none⟩ = some mv) (h4 : w0.cell? ⟨h, 4, none⟩ = some (vI sq)) (hm : Rd w0 mv (ml.map vB)) (hml : ml.length = 32) (hp : Rd w0 pv (pl.map vB)) (hpl : pl.length ≤ 1048576) (hsq : sq < 4294967296) :
  Calls Tryd.prog 56 #[.pointer (some ⟨h, 0, none⟩), pv] w0 fun e w' => ∃ o op, e = .returned (.slice (some ⟨o, 0, none⟩) 32 (32 + op.length)) ∧ 32 + op.length ≤ 9223372036854775807 ∧ St w0 w' [⟨true, some o, blk 5 ((codeF (UInt32.ofNat sq) ml pl).map vB ++ op)⟩] := by
 refine calls_start 17 Tryd.func56 rfl Tryd.ntmps56 rfl fun a hF => ?_
 have hS := St.refl w0
 refine wK fun Kq1 hKq1 => ?_
 refine wR ?_
 refine wg hF rfl rfl rfl (gv_assign rfl (ev_const _ _)) fun a hF => ?_
 refine wN ?_
 refine tN (hKq1 _ _ ?_)
 refine wK fun Kq2 hKq2 => ?_
 refine Fw.wp_region_draw (by kernel_rfl) fun w hx => ?_
 replace hS := hS.ext hx
 clear hx
 refine run_swalk _ 0 13 [8, 10, 11] [[8], [10]] _ (by kernel_rfl) (by kernel_rfl) rfl hF.size ?_
 have hO := hS
 clear hS
 have hS := St.refl w
 refine sg hF rfl rfl rfl rfl (fun w hx => gv_move rfl (hF.t rfl)) fun a hF => ?_
 refine sg hF rfl rfl rfl rfl (fun w hx => gv_nilCheck rfl (hF.t rfl)) fun a hF => ?_
 refine sg hF rfl rfl rfl rfl (fun w hx => gv_field (r := 2) rfl u50 rfl rfl z22 (by decide) (hF.t rfl)) fun a hF => ?_
 refine sg hF rfl rfl rfl rfl (fun w hx => gv_load rfl u22 rfl (hF.t rfl) (cell_ix (ext_cellQ ((hO.ext hx).toExt nw_nil) h2) (by omega))) fun a hF => ?_
 refine sg hF rfl rfl rfl rfl (fun w hx => gv_move rfl (hF.t rfl)) fun a hF => ?_
 refine sg hF rfl rfl rfl rfl (fun w hx => gv_nilCheck rfl (hF.t rfl)) fun a hF => ?_
 refine sg hF rfl rfl rfl rfl (fun w hx => gv_field (r := 4) rfl u50 rfl rfl z3 (by decide) (hF.t rfl)) fun a hF => ?_
 refine sg hF rfl rfl rfl rfl (fun w hx => gv_load rfl u3 rfl (hF.t rfl) (cell_ix (ext_cellQ ((hO.ext hx).toExt nw_nil) h4) (by omega))) fun a hF => ?_
 refine sw_eff rfl (stp_call hF (wanted_none rfl) rfl rfl Tryd.ok54 rfl (Evs.cons (hF.t rfl) Evs.nil) (ru32_mk hsq) fun e w h => ?_)
 obtain ⟨b, rfl, hN⟩ := h
 refine ⟨_, rfl, fun a hF => ?_⟩
 replace hS := hS.join hN (nw_cons rfl nw_nil)
 simp only [List.cons_append, List.nil_append] at hS
 clear hN
 refine ⟨hS.toExt (nw_cons rfl nw_nil), ?_⟩
 refine sg hF rfl rfl rfl rfl (fun w hx => gv_move rfl (hF.t rfl)) fun a hF => ?_
 replace hS := stNil hS
 refine sw_eff rfl (stp_appB (ob := some b) (l := u32B (UInt32.ofNat sq)) (pad := []) (k := 0) hF (wanted_none rfl) rfl rfl rfl u22 Tryd.ty5 rfl (hF.t rfl) (hF.t rfl) hS rfl (fun h => by cases h) (by rw [u32B_len]; simp) (hp.ext ((hO.ext (hS.toExt (nw_cons rfl nw_nil))).toExt nw_nil)) (by rw [u32B_len]; omega) fun o op a w hF oo oc hS => ?_)
 refine ⟨hS.toExt (nw_cons rfl nw_nil), ?_⟩
 refine sw_eff rfl (stp_call hF (wanted_none rfl) rfl rfl Tryd.ok71 rfl (Evs.cons (hF.t rfl) (Evs.cons (hF.t rfl) Evs.nil)) (rmac_ok (hm.ext ((hO.ext (hS.toExt (nw_cons rfl nw_nil))).toExt nw_nil)) hml (rd_own hS List.mem_cons_self (nw_cons rfl nw_nil) oo rfl oc) (by rw [List.length_append, u32B_len]; omega)) fun e w h => ?_)
 obtain ⟨t, tp, rfl, tc, hN⟩ := h
 refine ⟨_, rfl, fun a hF => ?_⟩
 replace hS := hS.join hN (nw_cons rfl nw_nil)
 simp only [List.cons_append, List.nil_append] at hS
 clear hN
 rw [← macF_R (by omega)] at hS
 refine ⟨hS.toExt (nw_cons rfl (nw_cons rfl nw_nil)), ?_⟩
 refine sg hF rfl rfl rfl rfl (fun w hx => gv_assign rfl (hF.t rfl)) fun a hF => ?_
 refine sw_nil ?_
 replace hS := hO.join hS (nw_cons rfl (nw_cons rfl nw_nil))
 simp only [List.cons_append, List.nil_append] at hS
 clear hO
 refine run_done (by decide) ?_
 refine tN (hKq2 _ _ ?_)
 refine wp_ret ?_
 refine ret1 (fn := Tryd.f56) (t := 4) hF rfl rfl ?_
 exact ⟨t, tp, rfl, tc, stTake hS 1 (nw_cons rfl nw_nil)⟩
theorem htake_ok {w00 w : World} {T : List Ent} {h at_ sq n : Nat} {tt : TypeId} {kv iv mv : Value} {rest : List Value} {A1 A2 A3 : Option Addr} {c1 c2 c3 m3 : Nat} (hS : St w00 w (⟨true, some h, blk tt (kv :: iv :: mv :: vI at_ :: vI sq :: vI n :: rest)⟩ :: T)) (h3 : m3 = 32) :
  Calls Tryd.prog 25 #[.pointer (some ⟨h, 0, none⟩), .slice A1 16 c1, .slice A2 16 c2, .slice A3 m3 c3] w fun e w' => e = .returned (vI 0) ∧ St w00 w' (⟨true, some h, blk tt (.slice A1 16 c1 :: .slice A2 16 c2 :: .slice A3 m3 c3 :: vI 0 :: vI sq :: vI 0 :: rest)⟩ :: T) := by
 refine calls_start 40 Tryd.func25 rfl Tryd.ntmps25 rfl fun a hF => ?_
 refine wK fun Kq1 hKq1 => ?_
 refine wR ?_
 refine wg hF rfl rfl rfl (gv_assign rfl (ev_const _ _)) fun a hF => ?_
 refine wN ?_
 refine tN (hKq1 _ _ ?_)
 refine wK fun Kq2 hKq2 => ?_
 refine wK fun Kq3 hKq3 => ?_
 refine wR ?_
 refine wg hF rfl rfl rfl (gv_move rfl (hF.t rfl)) fun a hF => ?_
 refine wg hF rfl rfl rfl (gv_len rfl u22 (hF.t rfl)) fun a hF => ?_
 refine wg hF rfl rfl rfl (gv_neqF rfl (hF.t rfl) (ev_const _ _) (fun h => h rfl)) fun a hF => ?_
 refine wg hF rfl rfl rfl (gv_move rfl (hF.t rfl)) fun a hF => ?_
 refine wpList_stp (stp_gv hF (wanted_of hF rfl rfl (rfl)) rfl rfl (gv_move rfl (hF.t rfl)) fun a hF => ?_)
 refine wpList_stp (stp_gv hF (wanted_of hF rfl rfl (rfl)) rfl rfl (gv_len rfl u22 (hF.t rfl)) fun a hF => ?_)
 refine wpList_stp (stp_gv hF (wanted_of hF rfl rfl (rfl)) rfl rfl (gv_neqF rfl (hF.t rfl) (ev_const _ _) (fun h => h rfl)) fun a hF => ?_)
 refine wg hF rfl rfl rfl (gv_pickF rfl (hF.t rfl) (hF.t rfl)) fun a hF => ?_
 refine wg hF rfl rfl rfl (gv_move rfl (hF.t rfl)) fun a hF => ?_
 refine wpList_stp (stp_gv hF (wanted_of hF rfl rfl (rfl)) rfl rfl (gv_move rfl (hF.t rfl)) fun a hF => ?_)
 refine wpList_stp (stp_gv hF (wanted_of hF rfl rfl (rfl)) rfl rfl (gv_len rfl u22 (hF.t rfl)) fun a hF => ?_)
 refine wpList_stp (stp_gv hF (wanted_of hF rfl rfl (rfl)) rfl rfl (gv_neqF rfl (hF.t rfl) (ev_const _ _) (by omega)) fun a hF => ?_)
 refine wg hF rfl rfl rfl (gv_pickF rfl (hF.t rfl) (hF.t rfl)) fun a hF => ?_
 refine wN ?_
 refine tN (hKq3 _ _ ?_)
 refine wp_cond_false (hF.t rfl) ?_
 refine wp_skip ?_
 refine tN (hKq2 _ _ ?_)
 refine wK fun Kq4 hKq4 => ?_
 refine wR ?_
 refine wg hF rfl rfl rfl (gv_move rfl (hF.t rfl)) fun a hF => ?_
 refine wg hF rfl rfl rfl (gv_move rfl (hF.t rfl)) fun a hF => ?_
 refine wg hF rfl rfl rfl (gv_nilCheck rfl (hF.t rfl)) fun a hF => ?_
 refine wg hF rfl rfl rfl (gv_field (r := 0) rfl u50 rfl rfl z22 (by decide) (hF.t rfl)) fun a hF => ?_
 refine wpList_stp (stp_storeAt (0) hF (wanted_none rfl) rfl rfl z22 (hF.t rfl) (by omega) (hF.t rfl) rfl hS (k := 0) rfl (by simp) fun w hS => ?_)
 refine wN ?_
 refine tN (hKq4 _ _ ?_)
 refine wK fun Kq5 hKq5 => ?_
 refine wR ?_
 refine wg hF rfl rfl rfl (gv_move rfl (hF.t rfl)) fun a hF => ?_
 refine wg hF rfl rfl rfl (gv_move rfl (hF.t rfl)) fun a hF => ?_
 refine wg hF rfl rfl rfl (gv_nilCheck rfl (hF.t rfl)) fun a hF => ?_
 refine wg hF rfl rfl rfl (gv_field (r := 1) rfl u50 rfl rfl z22 (by decide) (hF.t rfl)) fun a hF => ?_
 refine wpList_stp (stp_storeAt (1) hF (wanted_none rfl) rfl rfl z22 (hF.t rfl) (by omega) (hF.t rfl) rfl hS (k := 0) rfl (by simp) fun w hS => ?_)
 refine wN ?_
 refine tN (hKq5 _ _ ?_)
 refine wK fun Kq6 hKq6 => ?_
 refine wR ?_
 refine wg hF rfl rfl rfl (gv_move rfl (hF.t rfl)) fun a hF => ?_
 refine wg hF rfl rfl rfl (gv_move rfl (hF.t rfl)) fun a hF => ?_
 refine wg hF rfl rfl rfl (gv_nilCheck rfl (hF.t rfl)) fun a hF => ?_
 refine wg hF rfl rfl rfl (gv_field (r := 2) rfl u50 rfl rfl z22 (by decide) (hF.t rfl)) fun a hF => ?_
 refine wpList_stp (stp_storeAt (2) hF (wanted_none rfl) rfl rfl z22 (hF.t rfl) (by omega) (hF.t rfl) rfl hS (k := 0) rfl (by simp) fun w hS => ?_)
 refine wN ?_
 refine tN (hKq6 _ _ ?_)
 refine wK fun Kq7 hKq7 => ?_
 refine wR ?_
 refine wg hF rfl rfl rfl (gv_move rfl (hF.t rfl)) fun a hF => ?_
 refine wg hF rfl rfl rfl (gv_nilCheck rfl (hF.t rfl)) fun a hF => ?_
 refine wg hF rfl rfl rfl (gv_field (r := 3) rfl u50 rfl rfl z3 (by decide) (hF.t rfl)) fun a hF => ?_
 refine wpList_stp (stp_storeAt (3) hF (wanted_none rfl) rfl rfl z3 (hF.t rfl) (by omega) (ev_const _ _) rfl hS (k := 0) rfl (by simp) fun w hS => ?_)
 refine wN ?_
 refine tN (hKq7 _ _ ?_)
 refine wK fun Kq8 hKq8 => ?_
 refine wR ?_
 refine wg hF rfl rfl rfl (gv_move rfl (hF.t rfl)) fun a hF => ?_
 refine wg hF rfl rfl rfl (gv_nilCheck rfl (hF.t rfl)) fun a hF => ?_
 refine wg hF rfl rfl rfl (gv_field (r := 5) rfl u50 rfl rfl z3 (by decide) (hF.t rfl)) fun a hF => ?_
 refine wpList_stp (stp_storeAt (5) hF (wanted_none rfl) rfl rfl z3 (hF.t rfl) (by omega) (ev_const _ _) rfl hS (k := 0) rfl (by simp) fun w hS => ?_)
 refine wN ?_
 refine tN (hKq8 _ _ ?_)
 refine wK fun Kq9 hKq9 => ?_
 refine wR ?_
 refine wg hF rfl rfl rfl (gv_assign rfl (ev_const _ _)) fun a hF => ?_
 refine wN ?_
 refine tN (hKq9 _ _ ?_)
 refine wp_ret ?_
 refine ret1 (fn := Tryd.f25) (t := 8) hF rfl rfl ?_
 exact ⟨rfl, hS⟩
theorem htake_bad {w00 w : World} {T : List Ent} {h at_ sq n : Nat} {tt : TypeId} {kv iv mv : Value} {rest : List Value} {A1 A2 A3 : Option Addr} {c1 c2 c3 m3 : Nat} (hS : St w00 w (⟨true, some h, blk tt (kv :: iv :: mv :: vI at_ :: vI sq :: vI n :: rest)⟩ :: T)) (h3 : m3 ≠ 32) :
  Calls Tryd.prog 25 #[.pointer (some ⟨h, 0, none⟩), .slice A1 16 c1, .slice A2 16 c2, .slice A3 m3 c3] w fun e w' => e = .returned (vI 2) ∧ St w00 w' (⟨true, some h, blk tt (kv :: iv :: mv :: vI at_ :: vI sq :: vI n :: rest)⟩ :: T) := by
 refine calls_start 40 Tryd.func25 rfl Tryd.ntmps25 rfl fun a hF => ?_
 refine wK fun Kq1 hKq1 => ?_
 refine wR ?_
 refine wg hF rfl rfl rfl (gv_assign rfl (ev_const _ _)) fun a hF => ?_
 refine wN ?_
 refine tN (hKq1 _ _ ?_)
 refine wK fun Kq2 hKq2 => ?_
 refine wK fun Kq3 hKq3 => ?_
 refine wR ?_
 refine wg hF rfl rfl rfl (gv_move rfl (hF.t rfl)) fun a hF => ?_
 refine wg hF rfl rfl rfl (gv_len rfl u22 (hF.t rfl)) fun a hF => ?_
 refine wg hF rfl rfl rfl (gv_neqF rfl (hF.t rfl) (ev_const _ _) (fun h => h rfl)) fun a hF => ?_
 refine wg hF rfl rfl rfl (gv_move rfl (hF.t rfl)) fun a hF => ?_
 refine wpList_stp (stp_gv hF (wanted_of hF rfl rfl (rfl)) rfl rfl (gv_move rfl (hF.t rfl)) fun a hF => ?_)
 refine wpList_stp (stp_gv hF (wanted_of hF rfl rfl (rfl)) rfl rfl (gv_len rfl u22 (hF.t rfl)) fun a hF => ?_)
 refine wpList_stp (stp_gv hF (wanted_of hF rfl rfl (rfl)) rfl rfl (gv_neqF rfl (hF.t rfl) (ev_const _ _) (fun h => h rfl)) fun a hF => ?_)
 refine wg hF rfl rfl rfl (gv_pickF rfl (hF.t rfl) (hF.t rfl)) fun a hF => ?_
 refine wg hF rfl rfl rfl (gv_move rfl (hF.t rfl)) fun a hF => ?_
 refine wpList_stp (stp_gv hF (wanted_of hF rfl rfl (rfl)) rfl rfl (gv_move rfl (hF.t rfl)) fun a hF => ?_)
 refine wpList_stp (stp_gv hF (wanted_of hF rfl rfl (rfl)) rfl rfl (gv_len rfl u22 (hF.t rfl)) fun a hF => ?_)
 refine wpList_stp (stp_gv hF (wanted_of hF rfl rfl (rfl)) rfl rfl (gv_neqT rfl (hF.t rfl) (ev_const _ _) (by omega)) fun a hF => ?_)
 refine wg hF rfl rfl rfl (gv_pickF rfl (hF.t rfl) (hF.t rfl)) fun a hF => ?_
 refine wN ?_
 refine tN (hKq3 _ _ ?_)
 refine wp_cond_true (hF.t rfl) ?_
 refine wK fun Kq4 hKq4 => ?_
 refine wR ?_
 refine wg hF rfl rfl rfl (gv_assign rfl (ev_const _ _)) fun a hF => ?_
 refine wN ?_
 refine tN (hKq4 _ _ ?_)
 refine wp_ret ?_
 refine then_ret ?_
 refine ret1 (fn := Tryd.f25) (t := 8) hF rfl rfl ?_
 exact ⟨rfl, hS⟩
theorem hwrite_len {h : Nat} {pv dv : Value} {pl : List UInt8} {w0 : World} (hPl : Rd w0 pv (pl.map vB)) (hbad : pl.length = 0 ∨ 2048 < pl.length) :
  Calls Tryd.prog 23 #[.pointer (some ⟨h, 0, none⟩), pv, dv] w0 fun e w' => e = .returned (.slice none 0 0) ∧ Ext w0 w' := by
 obtain ⟨Ap, cp, rfl, _, hlim, _⟩ := hPl.isB
 refine calls_start 82 Tryd.func23 rfl Tryd.ntmps23 rfl fun a hF => ?_
 refine wK fun Kq1 hKq1 => ?_
 refine wR ?_
 refine wg hF rfl rfl rfl (gv_assign rfl (ev_const _ _)) fun a hF => ?_
 refine wN ?_
 refine tN (hKq1 _ _ ?_)
 refine wK fun Kq2 hKq2 => ?_
 refine wK fun Kq3 hKq3 => ?_
 refine wR ?_
 refine wg hF rfl rfl rfl (gv_move rfl (hF.t rfl)) fun a hF => ?_
 refine wg hF rfl rfl rfl (gv_len rfl u22 (hF.t rfl)) fun a hF => ?_
 refine wg hF rfl rfl rfl (gv_lss rfl (hF.t rfl) (ev_const _ _)) fun a hF => ?_
 refine wg hF rfl rfl rfl (gv_move rfl (hF.t rfl)) fun a hF => ?_
 refine wpList_stp (stp_gvG' hF rfl rfl rfl rfl rfl (fun hg => gv_move rfl (hF.t rfl)) fun a hF => ?_)
 refine wpList_stp (stp_gvG' hF rfl rfl rfl rfl rfl (fun hg => gv_len rfl u22 ((hF.t rfl).trans (if_neg hg))) fun a hF => ?_)
 refine wpList_stp (stp_gvG' hF rfl rfl rfl rfl rfl (fun hg => gv_gtr rfl ((hF.t rfl).trans (if_neg hg)) (ev_const _ _)) fun a hF => ?_)
 refine wg hF rfl rfl rfl (gv_pickOr rfl (hF.t rfl) (ev_const _ _) (hF.t rfl)) fun a hF => ?_
 refine wN ?_
 refine tN (hKq3 _ _ ?_)
 refine cond_dec (hF.t rfl) (fun h18 => ?_) (fun h18 => ?_)
 ·
  refine wK fun Kq4 hKq4 => ?_
  refine wR ?_
  refine wg hF rfl rfl rfl (gv_assign rfl (ev_const _ _)) fun a hF => ?_
  refine wN ?_
  refine tN (hKq4 _ _ ?_)
  refine wp_ret ?_
  refine then_ret ?_
  refine ret1 (fn := Tryd.f23) (t := 6) hF rfl rfl ?_
  exact ⟨rfl, Ext.refl _⟩
 ·
  exfalso
  omega
theorem hwrite_nil {w00 w : World} {T : List Ent} {h at_ sq n : Nat} {tt : TypeId} {iv mv : Value} {rest : List Value} {kc : Nat} {pv : Value} {pl dl : List UInt8} (hT : ∀ e ∈ T, e.nw = true) (hS : St w00 w (⟨true, some h, blk tt (.slice none 0 kc :: iv :: mv :: vI at_ :: vI sq :: vI n :: rest)⟩ :: T)) (hPl : SRd w00 T pv (pl.map vB)) (h1 : 1 ≤ pl.length) (hpl : pl.length ≤ 2048) (hd : dl.length ≤ 274877906944) (hsq : sq < 4294967295) (hn : n ≤ 4611686018427387904) :
  Calls Tryd.prog 23 #[.pointer (some ⟨h, 0, none⟩), pv, sV dl] w fun e w' => ∃ o op, e = .returned (ownV o (pktF (UInt32.ofNat sq) pl dl 8).length ((pktF (UInt32.ofNat sq) pl dl 8).length + op.length)) ∧ (o = none → (pktF (UInt32.ofNat sq) pl dl 8) = [] ∧ op = []) ∧ ((pktF (UInt32.ofNat sq) pl dl 8)).length + op.length ≤ 9223372036854775807 ∧ St w00 w' (⟨true, o, blk 5 ((pktF (UInt32.ofNat sq) pl dl 8).map vB ++ op)⟩ :: ⟨true, some h, blk tt (.slice none 0 kc :: iv :: mv :: vI at_ :: vI (sq + 1) :: vI (n + 1) :: rest)⟩ :: T) := by
 obtain ⟨Ap, cp, rfl, _, _, _⟩ := (hPl w _ hS (nw_cons rfl hT) (fun e he => List.mem_cons_of_mem _ (he))).isB
 refine calls_start 82 Tryd.func23 rfl Tryd.ntmps23 rfl fun a hF => ?_
 refine wK fun Kq1 hKq1 => ?_
 refine wR ?_
 refine wg hF rfl rfl rfl (gv_assign rfl (ev_const _ _)) fun a hF => ?_
 refine wN ?_
 refine tN (hKq1 _ _ ?_)
 refine wK fun Kq2 hKq2 => ?_
 refine wK fun Kq3 hKq3 => ?_
 refine wR ?_
 refine wg hF rfl rfl rfl (gv_move rfl (hF.t rfl)) fun a hF => ?_
 refine wg hF rfl rfl rfl (gv_len rfl u22 (hF.t rfl)) fun a hF => ?_
 refine wg hF rfl rfl rfl (gv_lssF rfl (hF.t rfl) (ev_const _ _) (by omega)) fun a hF => ?_
 refine wg hF rfl rfl rfl (gv_move rfl (hF.t rfl)) fun a hF => ?_
 refine wpList_stp (stp_gv hF (wanted_of hF rfl rfl (rfl)) rfl rfl (gv_move rfl (hF.t rfl)) fun a hF => ?_)
 refine wpList_stp (stp_gv hF (wanted_of hF rfl rfl (rfl)) rfl rfl (gv_len rfl u22 (hF.t rfl)) fun a hF => ?_)
 refine wpList_stp (stp_gv hF (wanted_of hF rfl rfl (rfl)) rfl rfl (gv_gtrF rfl (hF.t rfl) (ev_const _ _) (by omega)) fun a hF => ?_)
 refine wg hF rfl rfl rfl (gv_pickF rfl (hF.t rfl) (hF.t rfl)) fun a hF => ?_
 refine wN ?_
 refine tN (hKq3 _ _ ?_)
 refine wp_cond_false (hF.t rfl) ?_
 refine wp_skip ?_
 refine tN (hKq2 _ _ ?_)
 refine wK fun Kq4 hKq4 => ?_
 refine wR ?_
 refine wg hF rfl rfl rfl (gv_assign rfl (ev_const _ _)) fun a hF => ?_
 refine wN ?_
 refine tN (hKq4 _ _ ?_)
 refine wK fun Kq5 hKq5 => ?_
 refine wp_block ?_
 have hpn4 : 4 ≤ padn pl.length 8 := by unfold padn; split <;> omega
 have hpn := padn_le (n := pl.length) (u := 8)
 refine wp_loop_n (fun q1 a w => ∃ nn, 4 ≤ nn ∧ nn ≤ padn pl.length 8 ∧ q1 = padn pl.length 8 - nn ∧ Fr 82 a [(0, .pointer (some ⟨h, 0, none⟩)), (1, .slice Ap pl.length cp), (2, sV dl), (7, vI nn)] ∧ St w00 w (⟨true, some h, blk tt (.slice none 0 kc :: iv :: mv :: vI at_ :: vI sq :: vI n :: rest)⟩ :: T)) (padn pl.length 8 - 4) ⟨4, by omega, hpn4, rfl, hF.sub ⟨rfl, rfl, rfl, rfl, trivial⟩, hS⟩ ?_
 rintro q1 a w ⟨nn, hp4, hpp, hq1, hF, hS⟩
 have hpd := padn8 hp4 hpp
 refine wK fun Kq6 hKq6 => ?_
 refine wK fun Kq7 hKq7 => ?_
 refine wR ?_
 refine wg hF rfl rfl rfl (gv_move rfl (hF.t rfl)) fun a hF => ?_
 refine wg hF rfl rfl rfl (gv_len rfl u22 (hF.t rfl)) fun a hF => ?_
 refine wg hF rfl rfl rfl (gv_nadd (m := 5) rfl rfl (hF.t rfl) (by omega)) fun a hF => ?_
 refine wg hF rfl rfl rfl (gv_move rfl (hF.t rfl)) fun a hF => ?_
 refine wg hF rfl rfl rfl (gv_nadd rfl (hF.t rfl) (hF.t rfl) (by omega)) fun a hF => ?_
 refine wg hF rfl rfl rfl (gv_move rfl (hF.t rfl)) fun a hF => ?_
 refine wpList_stp (stp_call hF (wanted_none rfl) rfl rfl Tryd.ok53 rfl (Evs.cons (hF.t rfl) Evs.nil) (hunit_nil (hS.cell (k := 0) (i := 0) rfl rfl)) fun e w h => ?_)
 obtain ⟨rfl, hx⟩ := h
 refine ⟨_, rfl, fun a hF => ?_⟩
 replace hS := hS.ext hx
 clear hx
 refine wg hF rfl rfl rfl (gv_nrem (n := 8) rfl (hF.t rfl) (hF.t rfl) (by omega)) fun a hF => ?_
 refine wg hF rfl rfl rfl (gv_neq rfl (hF.t rfl) (ev_const _ _)) fun a hF => ?_
 refine wN ?_
 refine tN (hKq7 _ _ ?_)
 refine cond_dec (hF.t rfl) (fun h27 => ?_) (fun h27 => ?_)
 ·
  refine wp_skip ?_
  refine tN (hKq6 _ _ ?_)
  refine wp_block ?_
  refine wR ?_
  refine wg hF rfl rfl rfl (gv_move rfl (hF.t rfl)) fun a hF => ?_
  refine wg hF rfl rfl rfl (gv_nadd (n := 1) rfl (hF.t rfl) rfl (by omega)) fun a hF => ?_
  refine wg hF rfl rfl rfl (gv_assign rfl (hF.t rfl)) fun a hF => ?_
  refine wN ?_
  refine block_normal ?_
  refine then_normal ?_
  exact ⟨q1 - 1, by omega, nn + 1, by omega, by omega, by omega, hF.sub ⟨rfl, rfl, rfl, rfl, trivial⟩, hS⟩
 ·
  refine wp_exit ?_
  refine then_exit ?_
  refine then_exit ?_
  refine block_exit ?_
  refine tN (hKq5 _ _ ?_)
  refine wK fun Kq8 hKq8 => ?_
  have hnn : nn = padn pl.length 8 := by omega
  clear hpd
  refine wR ?_
  refine wg hF rfl rfl rfl (gv_move rfl (hF.t rfl)) fun a hF => ?_
  refine wg hF rfl rfl rfl (gv_len rfl u22 (hF.t rfl)) fun a hF => ?_
  refine wg hF rfl rfl rfl (gv_nadd (m := 1) rfl rfl (hF.t rfl) (by omega)) fun a hF => ?_
  refine wg hF rfl rfl rfl (gv_move rfl (hF.t rfl)) fun a hF => ?_
  refine wg hF rfl rfl rfl (gv_nadd rfl (hF.t rfl) (hF.t rfl) (by omega)) fun a hF => ?_
  refine wpList_stp (stp_call hF (wanted_none rfl) rfl rfl Tryd.ok54 rfl (Evs.cons (hF.t rfl) Evs.nil) (ru32_mk (n := 1 + pl.length + nn) (by omega)) fun e w h => ?_)
  obtain ⟨b, rfl, hN⟩ := h
  refine ⟨_, rfl, fun a hF => ?_⟩
  replace hS := hS.join hN (nw_cons rfl nw_nil)
  simp only [List.cons_append, List.nil_append] at hS
  clear hN
  replace hS : St w00 w (⟨true, some b, blk 5 ((u32B (UInt32.ofNat (1 + pl.length + nn))).map vB ++ [])⟩ :: ⟨true, some h, blk tt (.slice none 0 kc :: iv :: mv :: vI at_ :: vI sq :: vI n :: rest)⟩ :: T) := by rw [List.append_nil]; exact hS
  refine wg hF rfl rfl rfl (gv_move rfl (hF.t rfl)) fun a hF => ?_
  refine wg hF rfl rfl rfl (gv_conv_i_b rfl u3 u5 (hF.t rfl)) fun a hF => ?_
  refine wpList_stp (stp_build1 (v := _) hF (wanted_none rfl) rfl rfl rfl u22 Tryd.ty5 (hF.t rfl) hS fun zb a w hF hS => ?_)
  refine wpList_stp (stp_app1 (ob := some b) (l := u32B (UInt32.ofNat (1 + pl.length + nn))) (pad := []) (k := 0) hF (wanted_none rfl) rfl rfl rfl u22 Tryd.ty5 rfl (hF.t rfl) (hF.t rfl) hS rfl (fun h => by cases h) (by rw [u32B_len]; simp) (by rw [u32B_len]; omega) fun p pp a w hF po pc hS => ?_)
  refine wg hF rfl rfl rfl (gv_assign rfl (hF.t rfl)) fun a hF => ?_
  obtain ⟨P0, hP0⟩ : ∃ P0, P0 = u32B (UInt32.ofNat (1 + pl.length + nn)) ++ [UInt8.ofNat nn] := ⟨_, rfl⟩
  rw [← hP0] at hS po pc hF
  have hP0l : P0.length = 5 := by rw [hP0, List.length_append, u32B_len]; rfl
  refine wN ?_
  refine tN (hKq8 _ _ ?_)
  refine wK fun Kq9 hKq9 => ?_
  refine Fw.wp_region_draw (by kernel_rfl) fun w hx => ?_
  replace hS := hS.ext hx
  clear hx
  refine run_swalkI ⟨fun w => stays w00 ⟨true, some h, blk tt (.slice none 0 kc :: iv :: mv :: vI at_ :: vI sq :: vI n :: rest)⟩ ⟨true, some h, blk tt (.slice none 0 kc :: iv :: mv :: vI at_ :: vI sq :: vI n :: rest)⟩ T w, w, ⟨_, hS, (nw_cons rfl (nw_cons rfl hT)), (List.mem_of_getElem? (i := 1) rfl), (List.mem_of_getElem? (i := 1) rfl), (fun e he => List.mem_cons_of_mem _ (List.mem_cons_of_mem _ (he)))⟩⟩ _ 0 13 [2, 9, 12] [[2], [9]] _ (⟨_, hS, (nw_cons rfl (nw_cons rfl hT)), (List.mem_of_getElem? (i := 1) rfl), (List.mem_of_getElem? (i := 1) rfl), (fun e he => List.mem_cons_of_mem _ (List.mem_cons_of_mem _ (he)))⟩) (by kernel_rfl) (by kernel_rfl) rfl hF.size ?_
  refine sg hF rfl rfl rfl rfl (fun w hx => gv_move rfl (hF.t rfl)) fun a hF => ?_
  refine sg hF rfl rfl rfl rfl (fun w hx => gv_move rfl (hF.t rfl)) fun a hF => ?_
  refine sw_eff rfl (stp_appB (k := 0) hF (wanted_none rfl) rfl rfl rfl u22 Tryd.ty5 rfl (hF.t rfl) (hF.t rfl) hS rfl po pc (hPl w _ hS (nw_cons rfl (nw_cons rfl hT)) (fun e he => List.mem_cons_of_mem _ (List.mem_cons_of_mem _ (he)))) (by omega) fun p pp a w hF po pc hS => ?_)
  refine ⟨⟨_, hS, (nw_cons rfl (nw_cons rfl hT)), (List.mem_of_getElem? (i := 1) rfl), (List.mem_of_getElem? (i := 1) rfl), (fun e he => List.mem_cons_of_mem _ (List.mem_cons_of_mem _ (he)))⟩, ?_⟩
  refine sg hF rfl rfl rfl rfl (fun w hx => gv_move rfl (hF.t rfl)) fun a hF => ?_
  refine sg hF rfl rfl rfl rfl (fun w hx => gv_move rfl (hF.t rfl)) fun a hF => ?_
  refine sg hF rfl rfl rfl rfl (fun w hx => gv_nilCheck rfl (hF.t rfl)) fun a hF => ?_
  refine sg hF rfl rfl rfl rfl (fun w hx => gv_field (r := 4) rfl u50 rfl rfl z3 (by decide) (hF.t rfl)) fun a hF => ?_
  refine sg hF rfl rfl rfl rfl (fun w hx => gv_load rfl u3 rfl (hF.t rfl) (cell_ix (hx.cell (i := 4) rfl) (by omega))) fun a hF => ?_
  refine sg hF rfl rfl rfl rfl (fun w hx => gv_conv_i_d rfl u3 u76 (hF.t rfl)) fun a hF => ?_
  refine sw_eff rfl (stp_call hF (wanted_none rfl) rfl rfl Tryd.ok55 rfl (Evs.cons (hF.t rfl) (Evs.cons (hF.t rfl) Evs.nil)) (rdraw_ok (n := UInt64.ofNat sq) hd) fun e w h => ?_)
  obtain ⟨dd, ddp, rfl, dc, hN⟩ := h
  refine ⟨_, rfl, fun a hF => ?_⟩
  replace hS := hS.join hN (nw_cons rfl nw_nil)
  simp only [List.cons_append, List.nil_append] at hS
  clear hN
  obtain ⟨DD, hDD⟩ : ∃ DD, DD = drawF dl (UInt64.ofNat sq) := ⟨_, rfl⟩
  have hDl : DD.length = 32 := by rw [hDD]; exact drawF_len _ _
  rw [← hDD] at hS
  refine ⟨⟨_, hS, (nw_cons rfl (nw_cons rfl (nw_cons rfl hT))), (List.mem_of_getElem? (i := 2) rfl), (List.mem_of_getElem? (i := 2) rfl), (fun e he => List.mem_cons_of_mem _ (List.mem_cons_of_mem _ (List.mem_cons_of_mem _ (he))))⟩, ?_⟩
  refine sg hF rfl rfl rfl rfl (fun w hx => gv_move rfl (hF.t rfl)) fun a hF => ?_
  refine sg hF rfl rfl rfl rfl (fun w hx => gv_sliceHi rfl u22 z5 (hF.t rfl) (hF.t rfl) (by omega)) fun a hF => ?_
  have hR : Rd w (.slice (some ⟨dd, 0, none⟩) nn (32 + ddp.length)) ((DD.take nn).map vB) := by
   rw [List.map_take]
   exact ((own_rd (w0 := w00) (T := [⟨true, some dd, blk 5 (DD.map vB ++ ddp)⟩]) (ob := some dd) (l := DD) List.mem_cons_self (fun h => by cases h) hDl dc).cutHi (hi := nn) (by omega)) w _ hS (nw_cons rfl (nw_cons rfl (nw_cons rfl hT))) (fun e he => by obtain rfl := List.mem_singleton.1 he; exact List.mem_cons_self)
  have hTl : (DD.take nn).length = nn := by rw [List.length_take]; omega
  refine sw_eff rfl (stp_appB (k := 1) hF (wanted_none rfl) rfl rfl rfl u22 Tryd.ty5 rfl (hF.t rfl) (hF.t rfl) hS rfl po pc hR (by rw [List.length_append]; omega) fun p pp a w hF po pc hS => ?_)
  refine ⟨⟨_, hS, (nw_cons rfl (nw_cons rfl (nw_cons rfl hT))), (List.mem_of_getElem? (i := 2) rfl), (List.mem_of_getElem? (i := 2) rfl), (fun e he => List.mem_cons_of_mem _ (List.mem_cons_of_mem _ (List.mem_cons_of_mem _ (he))))⟩, ?_⟩
  refine sw_nil ?_
  refine run_stp (by kernel_rfl) rfl (stp_gv hF (wanted_none rfl) rfl rfl (gv_assign rfl (hF.t rfl)) fun a hF => ?_)
  have hPK : pktF (UInt32.ofNat sq) pl dl 8 = P0 ++ pl ++ DD.take nn := by rw [pktF, ← hnn, hP0, hDD, u64_32 (by omega)]
  obtain ⟨PP, hPP⟩ : ∃ PP, PP = P0 ++ pl ++ DD.take nn := ⟨_, rfl⟩
  rw [← hPP] at hF hS po pc hPK
  have hPl2 : PP.length ≤ 4096 := by rw [hPP, List.length_append, List.length_append, List.length_take]; omega
  refine run_done (by decide) ?_
  refine tN (hKq9 _ _ ?_)
  refine wK fun Kq10 hKq10 => ?_
  refine wR ?_
  refine wg hF rfl rfl rfl (gv_move rfl (hF.t rfl)) fun a hF => ?_
  refine wg hF rfl rfl rfl (gv_assign rfl (hF.t rfl)) fun a hF => ?_
  refine wN ?_
  refine tN (hKq10 _ _ ?_)
  refine wK fun Kq11 hKq11 => ?_
  refine wK fun Kq12 hKq12 => ?_
  refine wR ?_
  refine wg hF rfl rfl rfl (gv_move rfl (hF.t rfl)) fun a hF => ?_
  refine wg hF rfl rfl rfl (gv_nilCheck rfl (hF.t rfl)) fun a hF => ?_
  refine wg hF rfl rfl rfl (gv_field (r := 0) rfl u50 rfl rfl z22 (by decide) (hF.t rfl)) fun a hF => ?_
  refine wg hF rfl rfl rfl (gv_load rfl u22 rfl (hF.t rfl) (cell_ix (j := 0) (hS.cell (k := 2) rfl (rfl)) (by omega))) fun a hF => ?_
  refine wg hF rfl rfl rfl (gv_neqNilS rfl u22 (hF.t rfl) (ev_const _ _)) fun a hF => ?_
  refine wN ?_
  refine tN (hKq12 _ _ ?_)
  refine wp_cond_false (hF.t rfl) ?_
  refine wp_skip ?_
  refine tN (hKq11 _ _ ?_)
  refine wK fun Kq13 hKq13 => ?_
  refine wR ?_
  refine wg hF rfl rfl rfl (gv_move rfl (hF.t rfl)) fun a hF => ?_
  refine wg hF rfl rfl rfl (gv_nilCheck rfl (hF.t rfl)) fun a hF => ?_
  refine wg hF rfl rfl rfl (gv_field (r := 4) rfl u50 rfl rfl z3 (by decide) (hF.t rfl)) fun a hF => ?_
  refine wg hF rfl rfl rfl (gv_load rfl u3 rfl (hF.t rfl) (cell_ix (j := 4) (hS.cell (k := 2) rfl (rfl)) (by omega))) fun a hF => ?_
  refine wg hF rfl rfl rfl (gv_nadd (n := 1) rfl (hF.t rfl) rfl (by omega)) fun a hF => ?_
  refine wg hF rfl rfl rfl (gv_nilCheck rfl (hF.t rfl)) fun a hF => ?_
  refine wg hF rfl rfl rfl (gv_field (r := 4) rfl u50 rfl rfl z3 (by decide) (hF.t rfl)) fun a hF => ?_
  refine wpList_stp (stp_storeAt (4) hF (wanted_none rfl) rfl rfl z3 (hF.t rfl) (by omega) (hF.t rfl) rfl hS (k := 2) rfl (by simp) fun w hS => ?_)
  refine wN ?_
  refine tN (hKq13 _ _ ?_)
  refine wK fun Kq14 hKq14 => ?_
  refine wR ?_
  refine wg hF rfl rfl rfl (gv_move rfl (hF.t rfl)) fun a hF => ?_
  refine wg hF rfl rfl rfl (gv_nilCheck rfl (hF.t rfl)) fun a hF => ?_
  refine wg hF rfl rfl rfl (gv_field (r := 5) rfl u50 rfl rfl z3 (by decide) (hF.t rfl)) fun a hF => ?_
  refine wg hF rfl rfl rfl (gv_load rfl u3 rfl (hF.t rfl) (cell_ix (j := 5) (hS.cell (k := 2) rfl (rfl)) (by omega))) fun a hF => ?_
  refine wg hF rfl rfl rfl (gv_nadd (n := 1) rfl (hF.t rfl) rfl (by omega)) fun a hF => ?_
  refine wg hF rfl rfl rfl (gv_nilCheck rfl (hF.t rfl)) fun a hF => ?_
  refine wg hF rfl rfl rfl (gv_field (r := 5) rfl u50 rfl rfl z3 (by decide) (hF.t rfl)) fun a hF => ?_
  refine wpList_stp (stp_storeAt (5) hF (wanted_none rfl) rfl rfl z3 (hF.t rfl) (by omega) (hF.t rfl) rfl hS (k := 2) rfl (by simp) fun w hS => ?_)
  refine wN ?_
  refine tN (hKq14 _ _ ?_)
  refine wK fun Kq15 hKq15 => ?_
  refine wR ?_
  refine wg hF rfl rfl rfl (gv_move rfl (hF.t rfl)) fun a hF => ?_
  refine wg hF rfl rfl rfl (gv_assign rfl (hF.t rfl)) fun a hF => ?_
  refine wN ?_
  refine tN (hKq15 _ _ ?_)
  refine wp_ret ?_
  refine ret1 (fn := Tryd.f23) (t := 6) hF rfl rfl ?_
  replace hS := hS.drop rfl
  rw [hPK]
  exact ⟨p, pp, rfl, po, pc, hS⟩
theorem hwrite_key {w00 w : World} {T : List Ent} {h at_ sq n : Nat} {tt : TypeId} {iv mv : Value} {rest : List Value} {kb ko : Nat} {kc : Nat} {pv : Value} {pl dl : List UInt8} (hT : ∀ e ∈ T, e.nw = true) (hS : St w00 w (⟨true, some h, blk tt (.slice (some ⟨kb, ko, none⟩) 16 kc :: iv :: mv :: vI at_ :: vI sq :: vI n :: rest)⟩ :: T)) (hPl : SRd w00 T pv (pl.map vB)) (h1 : 1 ≤ pl.length) (hpl : pl.length ≤ 2048) (hd : dl.length ≤ 274877906944) (hsq : sq < 4294967295) (hn : n ≤ 4611686018427387904) {kl il ml : List UInt8} (hk : SRd w00 T (.slice (some ⟨kb, ko, none⟩) 16 kc) (kl.map vB)) (hi : SRd w00 T iv (il.map vB)) (hm : SRd w00 T mv (ml.map vB)) (hkl : kl.length = 16) (hil : il.length = 16) (hml : ml.length = 32) (hat : at_ ≤ 1073741824) :
  Calls Tryd.prog 23 #[.pointer (some ⟨h, 0, none⟩), pv, sV dl] w fun e w' => ∃ o op, e = .returned (ownV o (turned kl il at_ (pktF (UInt32.ofNat sq) pl dl 16) ++ codeF (UInt32.ofNat sq) ml (pktF (UInt32.ofNat sq) pl dl 16)).length ((turned kl il at_ (pktF (UInt32.ofNat sq) pl dl 16) ++ codeF (UInt32.ofNat sq) ml (pktF (UInt32.ofNat sq) pl dl 16)).length + op.length)) ∧ (o = none → (turned kl il at_ (pktF (UInt32.ofNat sq) pl dl 16) ++ codeF (UInt32.ofNat sq) ml (pktF (UInt32.ofNat sq) pl dl 16)) = [] ∧ op = []) ∧ ((turned kl il at_ (pktF (UInt32.ofNat sq) pl dl 16) ++ codeF (UInt32.ofNat sq) ml (pktF (UInt32.ofNat sq) pl dl 16))).length + op.length ≤ 9223372036854775807 ∧ St w00 w' (⟨true, o, blk 5 ((turned kl il at_ (pktF (UInt32.ofNat sq) pl dl 16) ++ codeF (UInt32.ofNat sq) ml (pktF (UInt32.ofNat sq) pl dl 16)).map vB ++ op)⟩ :: ⟨true, some h, blk tt (.slice (some ⟨kb, ko, none⟩) 16 kc :: iv :: mv :: vI (at_ + (pktF (UInt32.ofNat sq) pl dl 16).length) :: vI (sq + 1) :: vI (n + 1) :: rest)⟩ :: T) := by
 obtain ⟨Ap, cp, rfl, _, _, _⟩ := (hPl w _ hS (nw_cons rfl hT) (fun e he => List.mem_cons_of_mem _ (he))).isB
 refine calls_start 82 Tryd.func23 rfl Tryd.ntmps23 rfl fun a hF => ?_
 refine wK fun Kq1 hKq1 => ?_
 refine wR ?_
 refine wg hF rfl rfl rfl (gv_assign rfl (ev_const _ _)) fun a hF => ?_
 refine wN ?_
 refine tN (hKq1 _ _ ?_)
 refine wK fun Kq2 hKq2 => ?_
 refine wK fun Kq3 hKq3 => ?_
 refine wR ?_
 refine wg hF rfl rfl rfl (gv_move rfl (hF.t rfl)) fun a hF => ?_
 refine wg hF rfl rfl rfl (gv_len rfl u22 (hF.t rfl)) fun a hF => ?_
 refine wg hF rfl rfl rfl (gv_lssF rfl (hF.t rfl) (ev_const _ _) (by omega)) fun a hF => ?_
 refine wg hF rfl rfl rfl (gv_move rfl (hF.t rfl)) fun a hF => ?_
 refine wpList_stp (stp_gv hF (wanted_of hF rfl rfl (rfl)) rfl rfl (gv_move rfl (hF.t rfl)) fun a hF => ?_)
 refine wpList_stp (stp_gv hF (wanted_of hF rfl rfl (rfl)) rfl rfl (gv_len rfl u22 (hF.t rfl)) fun a hF => ?_)
 refine wpList_stp (stp_gv hF (wanted_of hF rfl rfl (rfl)) rfl rfl (gv_gtrF rfl (hF.t rfl) (ev_const _ _) (by omega)) fun a hF => ?_)
 refine wg hF rfl rfl rfl (gv_pickF rfl (hF.t rfl) (hF.t rfl)) fun a hF => ?_
 refine wN ?_
 refine tN (hKq3 _ _ ?_)
 refine wp_cond_false (hF.t rfl) ?_
 refine wp_skip ?_
 refine tN (hKq2 _ _ ?_)
 refine wK fun Kq4 hKq4 => ?_
 refine wR ?_
 refine wg hF rfl rfl rfl (gv_assign rfl (ev_const _ _)) fun a hF => ?_
 refine wN ?_
 refine tN (hKq4 _ _ ?_)
 refine wK fun Kq5 hKq5 => ?_
 refine wp_block ?_
 have hpn4 : 4 ≤ padn pl.length 16 := by unfold padn; split <;> omega
 have hpn := padn_le (n := pl.length) (u := 16)
 refine wp_loop_n (fun q1 a w => ∃ nn, 4 ≤ nn ∧ nn ≤ padn pl.length 16 ∧ q1 = padn pl.length 16 - nn ∧ Fr 82 a [(0, .pointer (some ⟨h, 0, none⟩)), (1, .slice Ap pl.length cp), (2, sV dl), (7, vI nn)] ∧ St w00 w (⟨true, some h, blk tt (.slice (some ⟨kb, ko, none⟩) 16 kc :: iv :: mv :: vI at_ :: vI sq :: vI n :: rest)⟩ :: T)) (padn pl.length 16 - 4) ⟨4, by omega, hpn4, rfl, hF.sub ⟨rfl, rfl, rfl, rfl, trivial⟩, hS⟩ ?_
 rintro q1 a w ⟨nn, hp4, hpp, hq1, hF, hS⟩
 have hpd := padn16 hp4 hpp
 refine wK fun Kq6 hKq6 => ?_
 refine wK fun Kq7 hKq7 => ?_
 refine wR ?_
 refine wg hF rfl rfl rfl (gv_move rfl (hF.t rfl)) fun a hF => ?_
 refine wg hF rfl rfl rfl (gv_len rfl u22 (hF.t rfl)) fun a hF => ?_
 refine wg hF rfl rfl rfl (gv_nadd (m := 5) rfl rfl (hF.t rfl) (by omega)) fun a hF => ?_
 refine wg hF rfl rfl rfl (gv_move rfl (hF.t rfl)) fun a hF => ?_
 refine wg hF rfl rfl rfl (gv_nadd rfl (hF.t rfl) (hF.t rfl) (by omega)) fun a hF => ?_
 refine wg hF rfl rfl rfl (gv_move rfl (hF.t rfl)) fun a hF => ?_
 refine wpList_stp (stp_call hF (wanted_none rfl) rfl rfl Tryd.ok53 rfl (Evs.cons (hF.t rfl) Evs.nil) (hunit_key (hS.cell (k := 0) (i := 0) rfl rfl)) fun e w h => ?_)
 obtain ⟨rfl, hx⟩ := h
 refine ⟨_, rfl, fun a hF => ?_⟩
 replace hS := hS.ext hx
 clear hx
 refine wg hF rfl rfl rfl (gv_nrem (n := 16) rfl (hF.t rfl) (hF.t rfl) (by omega)) fun a hF => ?_
 refine wg hF rfl rfl rfl (gv_neq rfl (hF.t rfl) (ev_const _ _)) fun a hF => ?_
 refine wN ?_
 refine tN (hKq7 _ _ ?_)
 refine cond_dec (hF.t rfl) (fun h27 => ?_) (fun h27 => ?_)
 ·
  refine wp_skip ?_
  refine tN (hKq6 _ _ ?_)
  refine wp_block ?_
  refine wR ?_
  refine wg hF rfl rfl rfl (gv_move rfl (hF.t rfl)) fun a hF => ?_
  refine wg hF rfl rfl rfl (gv_nadd (n := 1) rfl (hF.t rfl) rfl (by omega)) fun a hF => ?_
  refine wg hF rfl rfl rfl (gv_assign rfl (hF.t rfl)) fun a hF => ?_
  refine wN ?_
  refine block_normal ?_
  refine then_normal ?_
  exact ⟨q1 - 1, by omega, nn + 1, by omega, by omega, by omega, hF.sub ⟨rfl, rfl, rfl, rfl, trivial⟩, hS⟩
 ·
  refine wp_exit ?_
  refine then_exit ?_
  refine then_exit ?_
  refine block_exit ?_
  refine tN (hKq5 _ _ ?_)
  refine wK fun Kq8 hKq8 => ?_
  have hnn : nn = padn pl.length 16 := by omega
  clear hpd
  refine wR ?_
  refine wg hF rfl rfl rfl (gv_move rfl (hF.t rfl)) fun a hF => ?_
  refine wg hF rfl rfl rfl (gv_len rfl u22 (hF.t rfl)) fun a hF => ?_
  refine wg hF rfl rfl rfl (gv_nadd (m := 1) rfl rfl (hF.t rfl) (by omega)) fun a hF => ?_
  refine wg hF rfl rfl rfl (gv_move rfl (hF.t rfl)) fun a hF => ?_
  refine wg hF rfl rfl rfl (gv_nadd rfl (hF.t rfl) (hF.t rfl) (by omega)) fun a hF => ?_
  refine wpList_stp (stp_call hF (wanted_none rfl) rfl rfl Tryd.ok54 rfl (Evs.cons (hF.t rfl) Evs.nil) (ru32_mk (n := 1 + pl.length + nn) (by omega)) fun e w h => ?_)
  obtain ⟨b, rfl, hN⟩ := h
  refine ⟨_, rfl, fun a hF => ?_⟩
  replace hS := hS.join hN (nw_cons rfl nw_nil)
  simp only [List.cons_append, List.nil_append] at hS
  clear hN
  replace hS : St w00 w (⟨true, some b, blk 5 ((u32B (UInt32.ofNat (1 + pl.length + nn))).map vB ++ [])⟩ :: ⟨true, some h, blk tt (.slice (some ⟨kb, ko, none⟩) 16 kc :: iv :: mv :: vI at_ :: vI sq :: vI n :: rest)⟩ :: T) := by rw [List.append_nil]; exact hS
  refine wg hF rfl rfl rfl (gv_move rfl (hF.t rfl)) fun a hF => ?_
  refine wg hF rfl rfl rfl (gv_conv_i_b rfl u3 u5 (hF.t rfl)) fun a hF => ?_
  refine wpList_stp (stp_build1 (v := _) hF (wanted_none rfl) rfl rfl rfl u22 Tryd.ty5 (hF.t rfl) hS fun zb a w hF hS => ?_)
  refine wpList_stp (stp_app1 (ob := some b) (l := u32B (UInt32.ofNat (1 + pl.length + nn))) (pad := []) (k := 0) hF (wanted_none rfl) rfl rfl rfl u22 Tryd.ty5 rfl (hF.t rfl) (hF.t rfl) hS rfl (fun h => by cases h) (by rw [u32B_len]; simp) (by rw [u32B_len]; omega) fun p pp a w hF po pc hS => ?_)
  refine wg hF rfl rfl rfl (gv_assign rfl (hF.t rfl)) fun a hF => ?_
  obtain ⟨P0, hP0⟩ : ∃ P0, P0 = u32B (UInt32.ofNat (1 + pl.length + nn)) ++ [UInt8.ofNat nn] := ⟨_, rfl⟩
  rw [← hP0] at hS po pc hF
  have hP0l : P0.length = 5 := by rw [hP0, List.length_append, u32B_len]; rfl
  refine wN ?_
  refine tN (hKq8 _ _ ?_)
  refine wK fun Kq9 hKq9 => ?_
  refine Fw.wp_region_draw (by kernel_rfl) fun w hx => ?_
  replace hS := hS.ext hx
  clear hx
  refine run_swalkI ⟨fun w => stays w00 ⟨true, some h, blk tt (.slice (some ⟨kb, ko, none⟩) 16 kc :: iv :: mv :: vI at_ :: vI sq :: vI n :: rest)⟩ ⟨true, some h, blk tt (.slice (some ⟨kb, ko, none⟩) 16 kc :: iv :: mv :: vI at_ :: vI sq :: vI n :: rest)⟩ T w, w, ⟨_, hS, (nw_cons rfl (nw_cons rfl hT)), (List.mem_of_getElem? (i := 1) rfl), (List.mem_of_getElem? (i := 1) rfl), (fun e he => List.mem_cons_of_mem _ (List.mem_cons_of_mem _ (he)))⟩⟩ _ 0 13 [2, 9, 12] [[2], [9]] _ (⟨_, hS, (nw_cons rfl (nw_cons rfl hT)), (List.mem_of_getElem? (i := 1) rfl), (List.mem_of_getElem? (i := 1) rfl), (fun e he => List.mem_cons_of_mem _ (List.mem_cons_of_mem _ (he)))⟩) (by kernel_rfl) (by kernel_rfl) rfl hF.size ?_
  refine sg hF rfl rfl rfl rfl (fun w hx => gv_move rfl (hF.t rfl)) fun a hF => ?_
  refine sg hF rfl rfl rfl rfl (fun w hx => gv_move rfl (hF.t rfl)) fun a hF => ?_
  refine sw_eff rfl (stp_appB (k := 0) hF (wanted_none rfl) rfl rfl rfl u22 Tryd.ty5 rfl (hF.t rfl) (hF.t rfl) hS rfl po pc (hPl w _ hS (nw_cons rfl (nw_cons rfl hT)) (fun e he => List.mem_cons_of_mem _ (List.mem_cons_of_mem _ (he)))) (by omega) fun p pp a w hF po pc hS => ?_)
  refine ⟨⟨_, hS, (nw_cons rfl (nw_cons rfl hT)), (List.mem_of_getElem? (i := 1) rfl), (List.mem_of_getElem? (i := 1) rfl), (fun e he => List.mem_cons_of_mem _ (List.mem_cons_of_mem _ (he)))⟩, ?_⟩
  refine sg hF rfl rfl rfl rfl (fun w hx => gv_move rfl (hF.t rfl)) fun a hF => ?_
  refine sg hF rfl rfl rfl rfl (fun w hx => gv_move rfl (hF.t rfl)) fun a hF => ?_
  refine sg hF rfl rfl rfl rfl (fun w hx => gv_nilCheck rfl (hF.t rfl)) fun a hF => ?_
  refine sg hF rfl rfl rfl rfl (fun w hx => gv_field (r := 4) rfl u50 rfl rfl z3 (by decide) (hF.t rfl)) fun a hF => ?_
  refine sg hF rfl rfl rfl rfl (fun w hx => gv_load rfl u3 rfl (hF.t rfl) (cell_ix (hx.cell (i := 4) rfl) (by omega))) fun a hF => ?_
  refine sg hF rfl rfl rfl rfl (fun w hx => gv_conv_i_d rfl u3 u76 (hF.t rfl)) fun a hF => ?_
  refine sw_eff rfl (stp_call hF (wanted_none rfl) rfl rfl Tryd.ok55 rfl (Evs.cons (hF.t rfl) (Evs.cons (hF.t rfl) Evs.nil)) (rdraw_ok (n := UInt64.ofNat sq) hd) fun e w h => ?_)
  obtain ⟨dd, ddp, rfl, dc, hN⟩ := h
  refine ⟨_, rfl, fun a hF => ?_⟩
  replace hS := hS.join hN (nw_cons rfl nw_nil)
  simp only [List.cons_append, List.nil_append] at hS
  clear hN
  obtain ⟨DD, hDD⟩ : ∃ DD, DD = drawF dl (UInt64.ofNat sq) := ⟨_, rfl⟩
  have hDl : DD.length = 32 := by rw [hDD]; exact drawF_len _ _
  rw [← hDD] at hS
  refine ⟨⟨_, hS, (nw_cons rfl (nw_cons rfl (nw_cons rfl hT))), (List.mem_of_getElem? (i := 2) rfl), (List.mem_of_getElem? (i := 2) rfl), (fun e he => List.mem_cons_of_mem _ (List.mem_cons_of_mem _ (List.mem_cons_of_mem _ (he))))⟩, ?_⟩
  refine sg hF rfl rfl rfl rfl (fun w hx => gv_move rfl (hF.t rfl)) fun a hF => ?_
  refine sg hF rfl rfl rfl rfl (fun w hx => gv_sliceHi rfl u22 z5 (hF.t rfl) (hF.t rfl) (by omega)) fun a hF => ?_
  have hR : Rd w (.slice (some ⟨dd, 0, none⟩) nn (32 + ddp.length)) ((DD.take nn).map vB) := by
   rw [List.map_take]
   exact ((own_rd (w0 := w00) (T := [⟨true, some dd, blk 5 (DD.map vB ++ ddp)⟩]) (ob := some dd) (l := DD) List.mem_cons_self (fun h => by cases h) hDl dc).cutHi (hi := nn) (by omega)) w _ hS (nw_cons rfl (nw_cons rfl (nw_cons rfl hT))) (fun e he => by obtain rfl := List.mem_singleton.1 he; exact List.mem_cons_self)
  have hTl : (DD.take nn).length = nn := by rw [List.length_take]; omega
  refine sw_eff rfl (stp_appB (k := 1) hF (wanted_none rfl) rfl rfl rfl u22 Tryd.ty5 rfl (hF.t rfl) (hF.t rfl) hS rfl po pc hR (by rw [List.length_append]; omega) fun p pp a w hF po pc hS => ?_)
  refine ⟨⟨_, hS, (nw_cons rfl (nw_cons rfl (nw_cons rfl hT))), (List.mem_of_getElem? (i := 2) rfl), (List.mem_of_getElem? (i := 2) rfl), (fun e he => List.mem_cons_of_mem _ (List.mem_cons_of_mem _ (List.mem_cons_of_mem _ (he))))⟩, ?_⟩
  refine sw_nil ?_
  refine run_stp (by kernel_rfl) rfl (stp_gv hF (wanted_none rfl) rfl rfl (gv_assign rfl (hF.t rfl)) fun a hF => ?_)
  have hPK : pktF (UInt32.ofNat sq) pl dl 16 = P0 ++ pl ++ DD.take nn := by rw [pktF, ← hnn, hP0, hDD, u64_32 (by omega)]
  obtain ⟨PP, hPP⟩ : ∃ PP, PP = P0 ++ pl ++ DD.take nn := ⟨_, rfl⟩
  rw [← hPP] at hF hS po pc hPK
  have hPl2 : PP.length ≤ 4096 := by rw [hPP, List.length_append, List.length_append, List.length_take]; omega
  refine run_done (by decide) ?_
  refine tN (hKq9 _ _ ?_)
  refine wK fun Kq10 hKq10 => ?_
  refine wR ?_
  refine wg hF rfl rfl rfl (gv_move rfl (hF.t rfl)) fun a hF => ?_
  refine wg hF rfl rfl rfl (gv_assign rfl (hF.t rfl)) fun a hF => ?_
  refine wN ?_
  refine tN (hKq10 _ _ ?_)
  refine wK fun Kq11 hKq11 => ?_
  refine wK fun Kq12 hKq12 => ?_
  refine wR ?_
  refine wg hF rfl rfl rfl (gv_move rfl (hF.t rfl)) fun a hF => ?_
  refine wg hF rfl rfl rfl (gv_nilCheck rfl (hF.t rfl)) fun a hF => ?_
  refine wg hF rfl rfl rfl (gv_field (r := 0) rfl u50 rfl rfl z22 (by decide) (hF.t rfl)) fun a hF => ?_
  refine wg hF rfl rfl rfl (gv_load rfl u22 rfl (hF.t rfl) (cell_ix (j := 0) (hS.cell (k := 2) rfl (rfl)) (by omega))) fun a hF => ?_
  refine wg hF rfl rfl rfl (gv_neqNilS rfl u22 (hF.t rfl) (ev_const _ _)) fun a hF => ?_
  refine wN ?_
  refine tN (hKq12 _ _ ?_)
  refine wp_cond_true (hF.t rfl) ?_
  refine wK fun Kq13 hKq13 => ?_
  refine wR ?_
  refine wg hF rfl rfl rfl (gv_move rfl (hF.t rfl)) fun a hF => ?_
  refine wg hF rfl rfl rfl (gv_move rfl (hF.t rfl)) fun a hF => ?_
  refine wpList_stp (stp_call hF (wanted_none rfl) rfl rfl Tryd.ok56 rfl (Evs.cons (hF.t rfl) (Evs.cons (hF.t rfl) Evs.nil)) (hcode_ok (sq := sq) (hS.cell (k := 2) (i := 2) rfl rfl) (hS.cell (k := 2) (i := 4) rfl rfl) (hm w _ hS (nw_cons rfl (nw_cons rfl (nw_cons rfl hT))) (fun e he => List.mem_cons_of_mem _ (List.mem_cons_of_mem _ (List.mem_cons_of_mem _ (he))))) hml ((own_rd (w0 := w00) (ob := p) (l := PP) (List.mem_of_getElem? (i := 1) rfl) po rfl pc) w _ hS (nw_cons rfl (nw_cons rfl (nw_cons rfl hT))) (fun e he => he)) (by omega) (by omega)) fun e w h => ?_)
  obtain ⟨cd, cdp, rfl, cc, hN⟩ := h
  refine ⟨_, rfl, fun a hF => ?_⟩
  replace hS := hS.join hN (nw_cons rfl nw_nil)
  simp only [List.cons_append, List.nil_append] at hS
  clear hN
  refine wg hF rfl rfl rfl (gv_assign rfl (hF.t rfl)) fun a hF => ?_
  refine wN ?_
  refine tN (hKq13 _ _ ?_)
  refine wR ?_
  refine wg hF rfl rfl rfl (gv_move rfl (hF.t rfl)) fun a hF => ?_
  refine wg hF rfl rfl rfl (gv_move rfl (hF.t rfl)) fun a hF => ?_
  replace hS := hS.move (k := 3) rfl
  simp only [List.set_cons_zero, List.set_cons_succ, List.eraseIdx_cons_succ, List.eraseIdx_cons_zero] at hS
  refine wpList_stp (stp_call hF (wanted_none rfl) rfl rfl Tryd.ok57 rfl (Evs.cons (hF.t rfl) (Evs.cons (hF.t rfl) Evs.nil)) (hturn_ok (bl := PP) (nw_cons rfl (nw_cons rfl (nw_cons rfl hT))) hS (hk.mono fun e he => List.mem_cons_of_mem _ (List.mem_cons_of_mem _ (List.mem_cons_of_mem _ he))) (hi.mono fun e he => List.mem_cons_of_mem _ (List.mem_cons_of_mem _ (List.mem_cons_of_mem _ he))) hkl hil (own_rd (ob := p) (l := PP) (List.mem_of_getElem? (i := 2) rfl) po rfl pc) (by omega) hat) fun e w h => ?_)
  obtain ⟨q, qp, rfl, qo, qc, hS⟩ := h
  refine ⟨_, rfl, fun a hF => ?_⟩
  rw [← turned_len kl il at_ PP] at hF qc
  refine wg hF rfl rfl rfl (gv_move rfl (hF.t rfl)) fun a hF => ?_
  have hR : Rd w (.slice (some ⟨cd, 0, none⟩) 32 (32 + cdp.length)) ((codeF (UInt32.ofNat sq) ml PP).map vB) := (own_rd (w0 := w00) (T := [⟨true, some cd, blk 5 ((codeF (UInt32.ofNat sq) ml PP).map vB ++ cdp)⟩]) (ob := some cd) List.mem_cons_self (fun h => by cases h) (codeF_len _ _ _) cc) w _ hS (nw_cons rfl (nw_cons rfl (nw_cons rfl (nw_cons rfl (nw_cons rfl hT))))) (fun e he => by obtain rfl := List.mem_singleton.1 he; exact (List.mem_of_getElem? (i := 2) rfl))
  refine wpList_stp (stp_appB (k := 0) hF (wanted_none rfl) rfl rfl rfl u22 Tryd.ty5 rfl (hF.t rfl) (hF.t rfl) hS rfl qo qc hR (by rw [turned_len, codeF_len]; omega) fun q qp a w hF qo qc hS => ?_)
  refine wg hF rfl rfl rfl (gv_assign rfl (hF.t rfl)) fun a hF => ?_
  refine wN ?_
  refine tN (hKq11 _ _ ?_)
  refine wK fun Kq14 hKq14 => ?_
  refine wR ?_
  refine wg hF rfl rfl rfl (gv_move rfl (hF.t rfl)) fun a hF => ?_
  refine wg hF rfl rfl rfl (gv_nilCheck rfl (hF.t rfl)) fun a hF => ?_
  refine wg hF rfl rfl rfl (gv_field (r := 4) rfl u50 rfl rfl z3 (by decide) (hF.t rfl)) fun a hF => ?_
  refine wg hF rfl rfl rfl (gv_load rfl u3 rfl (hF.t rfl) (cell_ix (j := 4) (hS.cell (k := 1) rfl (rfl)) (by omega))) fun a hF => ?_
  refine wg hF rfl rfl rfl (gv_nadd (n := 1) rfl (hF.t rfl) rfl (by omega)) fun a hF => ?_
  refine wg hF rfl rfl rfl (gv_nilCheck rfl (hF.t rfl)) fun a hF => ?_
  refine wg hF rfl rfl rfl (gv_field (r := 4) rfl u50 rfl rfl z3 (by decide) (hF.t rfl)) fun a hF => ?_
  refine wpList_stp (stp_storeAt (4) hF (wanted_none rfl) rfl rfl z3 (hF.t rfl) (by omega) (hF.t rfl) rfl hS (k := 1) rfl (by simp) fun w hS => ?_)
  refine wN ?_
  refine tN (hKq14 _ _ ?_)
  refine wK fun Kq15 hKq15 => ?_
  refine wR ?_
  refine wg hF rfl rfl rfl (gv_move rfl (hF.t rfl)) fun a hF => ?_
  refine wg hF rfl rfl rfl (gv_nilCheck rfl (hF.t rfl)) fun a hF => ?_
  refine wg hF rfl rfl rfl (gv_field (r := 5) rfl u50 rfl rfl z3 (by decide) (hF.t rfl)) fun a hF => ?_
  refine wg hF rfl rfl rfl (gv_load rfl u3 rfl (hF.t rfl) (cell_ix (j := 5) (hS.cell (k := 1) rfl (rfl)) (by omega))) fun a hF => ?_
  refine wg hF rfl rfl rfl (gv_nadd (n := 1) rfl (hF.t rfl) rfl (by omega)) fun a hF => ?_
  refine wg hF rfl rfl rfl (gv_nilCheck rfl (hF.t rfl)) fun a hF => ?_
  refine wg hF rfl rfl rfl (gv_field (r := 5) rfl u50 rfl rfl z3 (by decide) (hF.t rfl)) fun a hF => ?_
  refine wpList_stp (stp_storeAt (5) hF (wanted_none rfl) rfl rfl z3 (hF.t rfl) (by omega) (hF.t rfl) rfl hS (k := 1) rfl (by simp) fun w hS => ?_)
  refine wN ?_
  refine tN (hKq15 _ _ ?_)
  refine wK fun Kq16 hKq16 => ?_
  refine wR ?_
  refine wg hF rfl rfl rfl (gv_move rfl (hF.t rfl)) fun a hF => ?_
  refine wg hF rfl rfl rfl (gv_assign rfl (hF.t rfl)) fun a hF => ?_
  refine wN ?_
  refine tN (hKq16 _ _ ?_)
  refine wp_ret ?_
  refine ret1 (fn := Tryd.f23) (t := 6) hF rfl rfl ?_
  replace hS := hS.move (k := 1) rfl
  replace hS := hS.move (k := 1) rfl
  replace hS := hS.move (k := 4) rfl
  replace hS := hS.move (k := 4) rfl
  replace hS := hS.move (k := 4) rfl
  simp only [List.set_cons_zero, List.set_cons_succ, List.eraseIdx_cons_succ, List.eraseIdx_cons_zero] at hS
  replace hS := ((hS.drop rfl).drop rfl).drop rfl
  rw [hPK]
  exact ⟨q, qp, rfl, qo, qc, hS⟩
end Go.Proofs.YtfhalnobaeogkaaDoor
set_option linter.unusedVariables false
set_option linter.unusedSimpArgs false
namespace Go.Proofs.YtfhalnobaeogkaaDoor
open Go Go.RowKit Go.Fw
theorem Tryd.zv143 : (Tryd.prog.info? 143).map (·.zero) = some (some (Value.agg ([Value.slice none 0 0] ++ [Value.int .i64 0] ++ [Value.bool false]).toArray)) := by kernel_rfl
structure QS where
 key : Option (List UInt8 × List UInt8 × List UInt8)
 at_ : Nat
 sq : Nat
 n : Nat
 B : List UInt8
 hd : Option (List UInt8)
 dead : Bool
def turnQ : Option (List UInt8 × List UInt8 × List UInt8) → Nat → List UInt8 → List UInt8
 | none, _, x => x
 | some k, a, x => turned k.1 k.2.1 a x
def advQ : Option (List UInt8 × List UInt8 × List UInt8) → Nat → Nat → Nat
 | none, a, _ => a
 | some _, a, k => a + k
def codeQ (sq : Nat) : Option (List UInt8 × List UInt8 × List UInt8) → List UInt8 → List UInt8
 | none, _ => []
 | some k, p => codeF (UInt32.ofNat sq) k.2.2 p
def unitQ : Option (List UInt8 × List UInt8 × List UInt8) → Nat
 | none => 8
 | some _ => 16
def tailQ : Option (List UInt8 × List UInt8 × List UInt8) → Nat
 | none => 0
 | some _ => 32
def step4 (s : QS) (P : List UInt8) : (List UInt8 × Nat) × QS :=
 if (P.getD 4 0).toNat < 4 ∨ P.length < (P.getD 4 0).toNat + 6 then (([], 3), { s with dead := true })
 else (((P.take (P.length - (P.getD 4 0).toNat)).drop 5, 0), { s with sq := s.sq + 1, n := s.n + 1 })
def step3 (s : QS) (P : List UInt8) (rest : Nat) : (List UInt8 × Nat) × QS :=
 if codeQ s.sq s.key P ≠ (s.B.take (rest + tailQ s.key)).drop rest then (([], 5), { s with dead := true })
 else step4 { s with B := s.B.drop (rest + tailQ s.key), hd := none } P
def step2 (s : QS) (hl : List UInt8) : (List UInt8 × Nat) × QS :=
 if ((u32A hl 4).toNat < 5 ∨ 2348 < (u32A hl 4).toNat) ∨ ¬ ((u32A hl 4).toNat + 4) % unitQ s.key = 0 then (([], 2), { s with hd := some hl, dead := true })
 else if s.B.length < (u32A hl 4).toNat + 4 - unitQ s.key + tailQ s.key then (([], 4), { s with hd := some hl })
 else step3 { s with hd := some hl, at_ := advQ s.key s.at_ ((u32A hl 4).toNat + 4 - unitQ s.key) } (hl ++ turnQ s.key s.at_ (s.B.take ((u32A hl 4).toNat + 4 - unitQ s.key))) ((u32A hl 4).toNat + 4 - unitQ s.key)
def nextQ (s : QS) : (List UInt8 × Nat) × QS :=
 if s.dead = true then (([], 9), s)
 else match s.hd with
  | some hl => step2 { s with hd := none } hl
  | none => if s.B.length < unitQ s.key then (([], 4), s) else step2 { s with at_ := advQ s.key s.at_ (unitQ s.key), B := s.B.drop (unitQ s.key), hd := none } (turnQ s.key s.at_ (s.B.take (unitQ s.key)))
def HdV (w00 : World) (T : List Ent) (hv : Value) (u : Nat) : Option (List UInt8) → Prop
 | none => hv = .slice none 0 0
 | some hl => hl.length = u ∧ SRd w00 T hv (hl.map vB)
abbrev rdE (r : Nat) (kv iv mv : Value) (at_ sq n : Nat) (bv hv : Value) (dead : Bool) : Ent := ⟨true, some r, blk 53 (kv :: iv :: mv :: vI at_ :: vI sq :: vI n :: bv :: hv :: .bool dead :: [])⟩
structure NextP (w00 : World) (T0 T : List Ent) (r : Nat) (kv iv mv : Value) (u : Nat) (res : (List UInt8 × Nat) × QS) (e : Ending) (w' : World) : Prop where
 ex : ∃ v Y bv hv, e = .returned (.tuple #[v, vI res.1.2]) ∧ (∀ x ∈ Y, x.nw = true) ∧ St w00 w' (rdE r kv iv mv res.2.at_ res.2.sq res.2.n bv hv res.2.dead :: (T ++ Y)) ∧ SRd w00 (T0 ++ Y) bv (res.2.B.map vB) ∧ HdV w00 (T0 ++ Y) hv u res.2.hd ∧ SRd w00 (T0 ++ Y) v (res.1.1.map vB)
theorem NextP.mk' {w00 w' : World} {T0 X0 T X Y Z : List Ent} {r u : Nat} {kv iv mv bv hv v : Value} {res : (List UInt8 × Nat) × QS} (hX : X = T ++ Y) (hX0 : X0 = T0 ++ Y) (hY : ∀ e ∈ Y, e.nw = true) (hZ : ∀ e ∈ Z, e.nw = true) (hS : St w00 w' (rdE r kv iv mv res.2.at_ res.2.sq res.2.n bv hv res.2.dead :: (X ++ Z)))
  (h1 : SRd w00 (X0 ++ Z) bv (res.2.B.map vB)) (h2 : HdV w00 (X0 ++ Z) hv u res.2.hd) (h3 : SRd w00 (X0 ++ Z) v (res.1.1.map vB)) : NextP w00 T0 T r kv iv mv u res (.returned (.tuple #[v, vI res.1.2])) w' := by
 subst hX hX0
 rw [List.append_assoc] at hS h1 h2 h3
 exact ⟨v, Y ++ Z, bv, hv, rfl, nw_app hY hZ, hS, h1, h2, h3⟩
theorem stB0 {w0 w : World} {E : Ent} {T : List Ent} (h : St w0 w (E :: T)) : St w0 w (E :: (T ++ [])) := by rw [List.append_nil]; exact h
theorem stB1 {w0 w : World} {x E : Ent} {T : List Ent} (h : St w0 w (x :: E :: T)) : St w0 w (E :: (T ++ [x])) :=
 h.perm ((List.Perm.swap E x T).trans ((List.perm_append_singleton x T).symm.cons E))
theorem stB2 {w0 w : World} {x y E : Ent} {T : List Ent} (h : St w0 w (x :: y :: E :: T)) : St w0 w (E :: (T ++ [y, x])) := by
 have h1 := stB1 (h.perm ((List.Perm.swap y x (E :: T)).trans ((List.Perm.swap E x T).cons y)))
 have h2 : St w0 w (y :: E :: (x :: T)) := h.perm ((List.Perm.swap y x (E :: T)).trans ((List.Perm.swap E x T).cons y))
 have h3 : St w0 w (E :: ((x :: T) ++ [y])) := stB1 h2
 exact h3.perm (List.Perm.cons E (by
  refine ((List.perm_append_singleton y (x :: T))).trans ?_
  exact (List.perm_append_comm (l₁ := [y, x]) (l₂ := T))))
theorem HdV.mono {w00 : World} {T T' : List Ent} {hv : Value} {u : Nat} {o : Option (List UInt8)} (h : HdV w00 T hv u o) (ht : ∀ e ∈ T, e ∈ T') : HdV w00 T' hv u o := by
 cases o with
 | none => exact h
 | some l => exact ⟨h.1, h.2.mono ht⟩
theorem u32R_hd {hl : List UInt8} (h : 4 ≤ hl.length) : (u32R (some hl)).1 = u32A hl 4 := by
 have h1 : (takeR 4 (some hl)).1 = some (hl.take 4) := by rw [takeR, if_pos h]
 rw [u32R_some h1, u32A_take 4 (Nat.le_refl _)]
theorem build_curQ {A : Option Addr} {n c : Nat} (w : World) : (Instr.build 143 #[(0, .slice A n c)]).run Tryd.prog w = .ok (.agg [.slice A n c, vI 0, .bool false].toArray) w := by
 refine run_buildStr (pl := [(0, .slice A n c)]) (places := #[(0, 1), (1, 1), (2, 1)]) u143 Tryd.zv143 rfl (fun w => ?_) ?_
 ·
  simp [Fw.run_sizeOf z22, Fw.run_sizeOf z3, Fw.run_sizeOf z4]
 ·
  rfl
end Go.Proofs.YtfhalnobaeogkaaDoor

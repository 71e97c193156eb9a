/- What is proved: lemmas and contracts, part 3 of what the theorem of YtfhalnobaeogkaaDoorPackPR leans on. No further condition. -/
import Derived.Test.YtfhalnobaeogkaaDoorProg
import Derived.Test.YtfhalnobaeogkaaDoorRows
import Derived.Below
import Derived.ChangeOld
import Derived.Deep.SlicePairs
import Derived.Deep.Slices
import Derived.Great.BuildSlice
import Derived.KernelRfl
import Derived.LaidMore
import Derived.Laws.Build
import Derived.Laws.BytesArg
import Derived.Laws.IdiomCopy
import Derived.Laws.StructEq
import Derived.Lib.ConvBytes
import Derived.Maps.AppendAt
import Derived.OpenShut
import Derived.ProofKit
import Derived.SevenTiedAt
import Derived.ShutString
import Derived.SizedLaws
import Derived.Stop.BytesEq
import Derived.Stop.Joined
import Derived.WalkKit
import Derived.Test.YtfhalnobaeogkaaDoorPackPR1
import Derived.Test.YtfhalnobaeogkaaDoorPackPR2
set_option linter.unusedVariables false
set_option linter.unusedSimpArgs false
namespace Go.Proofs.YtfhalnobaeogkaaDoor
open Go Go.RowKit Go.Fw
theorem z126 : (Tryd.prog.info? 126).map (·.size) = some 4 := by kernel_rfl
theorem z127 : (Tryd.prog.info? 127).map (·.size) = some 16 := by kernel_rfl
theorem z128 : (Tryd.prog.info? 128).map (·.size) = some 176 := by kernel_rfl
theorem z129 : (Tryd.prog.info? 129).map (·.size) = some 16 := by kernel_rfl
theorem Tryd.zv126 : (Tryd.prog.info? 126).map (·.zero) = some (some (Value.agg ((List.replicate 4 (0 : UInt8)).map vB).toArray)) := by kernel_rfl
theorem Tryd.zv127 : (Tryd.prog.info? 127).map (·.zero) = some (some (Value.agg ((List.replicate 16 (0 : UInt8)).map vB).toArray)) := by kernel_rfl
theorem Tryd.zv129 : (Tryd.prog.info? 129).map (·.zero) = some (some (Value.agg ((List.replicate 16 (0 : UInt8)).map vB).toArray)) := by kernel_rfl
theorem Tryd.zv131 : (Tryd.prog.info? 131).map (·.zero) = some (some (Value.agg (((List.replicate 176 (0 : UInt8)).map vB) ++ ((List.replicate 16 (0 : UInt8)).map vB) ++ [Value.slice none 0 0]).toArray)) := by kernel_rfl
theorem Tryd.ok66 : CallOk Tryd.prog 66 := ⟨_, Tryd.func66, by kernel_rfl, by kernel_rfl⟩
theorem Tryd.ok69 : CallOk Tryd.prog 69 := ⟨_, Tryd.func69, by kernel_rfl, by kernel_rfl⟩
theorem Tryd.ok70 : CallOk Tryd.prog 70 := ⟨_, Tryd.func70, by kernel_rfl, by kernel_rfl⟩
abbrev strm (K C : List UInt8) (v : Value) : Obj := blk 131 (K.map vB ++ (C.map vB ++ [v]))
def K1 (kl : List UInt8) : Nat → List UInt8
 | 0 => List.replicate 176 0
 | i + 1 => (K1 kl i).set i (kl.getD i 0)
theorem K1_len (kl : List UInt8) (i : Nat) : (K1 kl i).length = 176 := by induction i with
 | zero => exact List.length_replicate
 | succ i ih => rw [K1, List.length_set, ih]
def xw (K t : List UInt8) (o : Nat) : Nat → List UInt8
 | 0 => t
 | i + 1 => (xw K t o i).set i ((xw K t o i).getD i 0 ^^^ K.getD (o + i) 0)
theorem xw_len (K t : List UInt8) (o i : Nat) : (xw K t o i).length = t.length := by induction i with
 | zero => rfl
 | succ i ih => simp [xw, ih]
def cols (K t : List UInt8) (r : Nat) : Nat → List UInt8 × List UInt8
 | 0 => (K, t)
 | c + 1 => (splice (cols K t r c).1 ((r + 1) * 16 + c * 4) (xw (cols K t r c).1 (cols K t r c).2 (r * 16 + c * 4) 4), xw (cols K t r c).1 (cols K t r c).2 (r * 16 + c * 4) 4)
theorem cols_len {K t : List UInt8} {r : Nat} (hK : K.length = 176) (ht : t.length = 4) (hr : r < 10) : ∀ c, c ≤ 4 → (cols K t r c).1.length = 176 ∧ (cols K t r c).2.length = 4
 | 0, _ => ⟨hK, ht⟩
 | c + 1, h => by
  obtain ⟨h1, h2⟩ := cols_len hK ht hr c (by omega)
  refine ⟨?_, by simp only [cols, xw_len, h2]⟩
  simp only [cols]
  rw [splice_len (by rw [xw_len, h1, h2]; omega), h1]
def t0 (K : List UInt8) (r : Nat) (x : UInt8) : List UInt8 :=
 [sb (((K.drop (r * 16 + 12)).take 4).getD 1 0) ^^^ x, sb (((K.drop (r * 16 + 12)).take 4).getD 2 0), sb (((K.drop (r * 16 + 12)).take 4).getD 3 0), sb (((K.drop (r * 16 + 12)).take 4).getD 0 0)]
def rcon : Nat → UInt8
 | 0 => 1
 | r + 1 => dbl (rcon r)
def keysR (kl : List UInt8) : Nat → List UInt8
 | 0 => K1 kl 16
 | r + 1 => (cols (keysR kl r) (t0 (keysR kl r) r (rcon r)) r 4).1
theorem keysR_zero (kl : List UInt8) : keysR kl 0 = K1 kl 16 := rfl
theorem keysR_succ (kl : List UInt8) (r : Nat) : keysR kl (r + 1) = (cols (keysR kl r) (t0 (keysR kl r) r (rcon r)) r 4).1 := rfl
theorem keysR_len (kl : List UInt8) : ∀ r, r ≤ 10 → (keysR kl r).length = 176
 | 0, _ => K1_len kl 16
 | r + 1, h => (cols_len (keysR_len kl r (by omega)) rfl (by omega) 4 (by omega)).1
def keys (kl : List UInt8) : List UInt8 := keysR kl 10
theorem keys_len (kl : List UInt8) : (keys kl).length = 176 := keysR_len kl 10 (by omega)
theorem build_strm {cl : List UInt8} (h : cl.length = 16) (w : World) : (Instr.build 131 #[(1, .agg (cl.map vB).toArray)]).run Tryd.prog w = .ok (.agg ((List.replicate 176 (0 : UInt8)).map vB ++ (cl.map vB ++ [Value.slice none 0 0])).toArray) w := by
 refine run_buildStr (pl := [(1, .agg (cl.map vB).toArray)]) (places := #[(0, 176), (176, 16), (192, 1)]) u131 Tryd.zv131 rfl (fun w => ?_) ?_
 ·
  simp [Fw.run_sizeOf z128, Fw.run_sizeOf z129, Fw.run_sizeOf z22]
 ·
  obtain ⟨X, hX, hXl⟩ : ∃ X, X = (List.replicate 176 (0 : UInt8)).map vB ∧ X.length = 176 := ⟨_, rfl, by rw [List.length_map, List.length_replicate]⟩
  obtain ⟨Y, hY, hYl⟩ : ∃ Y, Y = (List.replicate 16 (0 : UInt8)).map vB ∧ Y.length = 16 := ⟨_, rfl, by rw [List.length_map, List.length_replicate]⟩
  rw [← hX, ← hY]
  show Instr.fill _ (X ++ Y ++ [Value.slice none 0 0]).toArray _ = _
  rw [List.append_assoc]
  rw [fill_cons (vs := cl.map vB) (off := 176) (by simp [h]) rfl (by simp [h, hXl, hYl]), fill_nil]
  congr 2
  unfold splice
  have hc : (cl.map vB).length = 16 := by simp [h]
  simp only [List.append_assoc]
  rw [List.take_left' hXl, hc, show 176 + 16 = X.length + 16 by omega, List.drop_append, show X.length + 16 - X.length = Y.length by omega, List.drop_left, List.drop_eq_nil_of_le (by omega)]
  rfl
theorem new_ok {kv cv : Value} {kl cl : List UInt8} {w0 : World} (hkv : Rd w0 kv (kl.map vB)) (hcv : Rd w0 cv (cl.map vB)) (hk : kl.length = 16) (hc : cl.length = 16) :
  Calls Tryd.prog 52 #[kv, cv] w0 fun e w' => ∃ b, e = .returned (.tuple #[.pointer (some ⟨b, 0, none⟩), .int .i64 0]) ∧ St w0 w' [⟨true, some b, strm (keys kl) cl (.slice none 0 0)⟩] := by
 obtain ⟨Ak, ck, rfl, hk1, hk2, hkc⟩ := hkv.isB
 obtain ⟨Ac, cc, rfl, hc1, hc2, hcc⟩ := hcv.isB
 obtain ⟨bk, ok, rfl, hkc⟩ := hkc (by omega)
 obtain ⟨bc, oc, rfl, hcc⟩ := hcc (by omega)
 rw [hk] at hkv hk1 hkc ⊢
 rw [hc] at hcv hc1 hcc ⊢
 refine calls_start 113 Tryd.func52 rfl Tryd.ntmps52 rfl fun a hF => ?_
 have hS := St.refl w0
 refine wK fun Kq1 hKq1 => ?_
 refine wR ?_
 refine wg hF rfl rfl rfl (gv_assign rfl (ev_const _ _)) fun a hF => ?_
 refine wg hF rfl rfl rfl (gv_assign rfl (ev_const _ _)) fun a hF => ?_
 refine wN ?_
 refine tN (hKq1 _ _ ?_)
 refine wK fun Kq2 hKq2 => ?_
 refine wK fun Kq3 hKq3 => ?_
 refine wR ?_
 refine wg hF rfl rfl rfl (gv_move rfl (hF.t rfl)) fun a hF => ?_
 refine wg hF rfl rfl rfl (gv_len rfl u22 (hF.t rfl)) fun a hF => ?_
 refine wg hF rfl rfl rfl (gv_neq rfl (hF.t rfl) (ev_const _ _)) fun a hF => ?_
 refine wg hF rfl rfl rfl (gv_move rfl (hF.t rfl)) fun a hF => ?_
 refine wpList_stp (stp_gv hF (wanted_of hF rfl rfl (rfl)) rfl rfl (gv_move rfl (hF.t rfl)) fun a hF => ?_)
 refine wpList_stp (stp_gv hF (wanted_of hF rfl rfl (rfl)) rfl rfl (gv_len rfl u22 (hF.t rfl)) fun a hF => ?_)
 refine wpList_stp (stp_gv hF (wanted_of hF rfl rfl (rfl)) rfl rfl (gv_neq rfl (hF.t rfl) (ev_const _ _)) fun a hF => ?_)
 refine wg hF rfl rfl rfl (gv_pickF rfl (hF.t rfl) (hF.t rfl)) fun a hF => ?_
 refine wN ?_
 refine tN (hKq3 _ _ ?_)
 refine wp_cond_false (hF.t rfl) ?_
 refine wp_skip ?_
 refine tN (hKq2 _ _ ?_)
 refine wK fun Kq4 hKq4 => ?_
 refine wR ?_
 refine wg hF rfl rfl rfl (gv_move rfl (hF.t rfl)) fun a hF => ?_
 refine wg hF rfl rfl rfl (gv_toArr rfl u129 (hF.t rfl) (by omega)) fun a hF => ?_
 refine wg hF rfl rfl rfl (gv_loadAgg (vs := cl.map vB) rfl u129 rfl (z129.trans (congrArg some (by simp [hc]))) (hF.t rfl) (fun j u hu => (hcv.ext (hS.toExt (by simp))).rdcell hu)) fun a hF => ?_
 refine wg hF rfl rfl rfl (gv_build rfl (EvP.map (EvP.cons (hF.t rfl) EvP.nil)) (build_strm hc _)) fun a hF => ?_
 refine wpList_stp (stp_box hF (wanted_none rfl) rfl rfl rfl (hF.t rfl) rfl hS fun s a w hF hS => ?_)
 refine wg hF rfl rfl rfl (gv_assign rfl (hF.t rfl)) fun a hF => ?_
 refine wN ?_
 refine tN (hKq4 _ _ ?_)
 refine wK fun Kq5 hKq5 => ?_
 refine wK fun Kq6 hKq6 => ?_
 refine wR ?_
 refine wg hF rfl rfl rfl (gv_move rfl (hF.t rfl)) fun a hF => ?_
 refine wg hF rfl rfl rfl (gv_len rfl u22 (hF.t rfl)) fun a hF => ?_
 refine wg hF rfl rfl rfl (gv_move rfl (ev_const _ _)) fun a hF => ?_
 refine wN ?_
 refine tN (hKq6 _ _ ?_)
 refine wp_block ?_
 refine wp_loop_n (fun n a w => ∃ k, k ≤ 16 ∧ n = 16 - k ∧ Fr 113 a [(6, .pointer (some ⟨s, 0, none⟩)), (28, .slice (some ⟨bk, ok, none⟩) 16 ck), (29, vI 16), (30, vI k)] ∧ St w0 w [⟨true, some s, strm (K1 kl k) cl (.slice none 0 0)⟩]) 16 ⟨0, by omega, by omega, hF.sub ⟨rfl, rfl, rfl, rfl, trivial⟩, hS⟩ ?_
 rintro n a w ⟨k, hk16, hn, hF, hS⟩
 refine wK fun Kq7 hKq7 => ?_
 refine wR ?_
 refine wg hF rfl rfl rfl (gv_lss rfl (hF.t rfl) (hF.t rfl)) fun a hF => ?_
 refine wN ?_
 refine tN (hKq7 _ _ ?_)
 refine wK fun Kq8 hKq8 => ?_
 refine cond_dec (hF.t rfl) (fun hc31 => ?_) (fun hc31 => ?_)
 ·
  refine wp_skip ?_
  refine tN (hKq8 _ _ ?_)
  refine wK fun Kq9 hKq9 => ?_
  refine wp_block ?_
  refine wK fun Kq10 hKq10 => ?_
  refine wR ?_
  refine wg hF rfl rfl rfl (gv_move rfl (hF.t rfl)) fun a hF => ?_
  refine wg hF rfl rfl rfl (gv_indexSl rfl u22 z5 (hF.t rfl) (hF.t rfl) (by omega)) fun a hF => ?_
  refine wg hF rfl rfl rfl (gv_load rfl u5 rfl (hF.t rfl) (cell_ix ((hkv.ext (hS.toExt (by simp))).cellB k (by omega)) (by omega))) fun a hF => ?_
  refine wg hF rfl rfl rfl (gv_assign rfl (hF.t rfl)) fun a hF => ?_
  refine wg hF rfl rfl rfl (gv_assign rfl (hF.t rfl)) fun a hF => ?_
  refine wN ?_
  refine tN (hKq10 _ _ ?_)
  refine wR ?_
  refine wg hF rfl rfl rfl (gv_move rfl (hF.t rfl)) fun a hF => ?_
  refine wg hF rfl rfl rfl (gv_move rfl (hF.t rfl)) fun a hF => ?_
  refine wg hF rfl rfl rfl (gv_nquo (n := 4) rfl (hF.t rfl) rfl (by omega) (by omega)) fun a hF => ?_
  refine wg hF rfl rfl rfl (gv_move rfl (hF.t rfl)) fun a hF => ?_
  refine wg hF rfl rfl rfl (gv_nrem (n := 4) rfl (hF.t rfl) rfl (by omega)) fun a hF => ?_
  refine wg hF rfl rfl rfl (gv_move rfl (hF.t rfl)) fun a hF => ?_
  refine wg hF rfl rfl rfl (gv_nilCheck rfl (hF.t rfl)) fun a hF => ?_
  refine wg hF rfl rfl rfl (gv_field (r := 0) rfl u131 rfl rfl z128 (by decide) (hF.t rfl)) fun a hF => ?_
  refine wg hF rfl rfl rfl (gv_indexArr (q := 0) rfl u128 z127 (hF.t rfl) rfl (by omega)) fun a hF => ?_
  refine wg hF rfl rfl rfl (gv_indexArr rfl u127 z126 (hF.t rfl) (hF.t rfl) (by omega)) fun a hF => ?_
  refine wg hF rfl rfl rfl (gv_indexArr rfl u126 z5 (hF.t rfl) (hF.t rfl) (by omega)) fun a hF => ?_
  refine wpList_stp (stp_storeAt (k) hF (wanted_none rfl) rfl rfl z5 (hF.t rfl) (by omega) (hF.t rfl) rfl hS (k := 0) rfl (by simp [K1_len]; omega) fun w hS => ?_)
  rw [set_map (by rw [K1_len]; omega)] at hS
  refine wN ?_
  refine block_normal ?_
  refine tN (hKq9 _ _ ?_)
  refine wR ?_
  refine wg hF rfl rfl rfl (gv_nadd (n := 1) rfl (hF.t rfl) rfl (by omega)) fun a hF => ?_
  refine wg hF rfl rfl rfl (gv_move rfl (hF.t rfl)) fun a hF => ?_
  refine wN ?_
  refine then_normal ?_
  exact ⟨n - 1, by omega, k + 1, by omega, by omega, hF.sub ⟨rfl, rfl, rfl, rfl, trivial⟩, hS⟩
 ·
  refine wp_exit ?_
  refine then_exit ?_
  refine then_exit ?_
  refine block_exit ?_
  refine tN (hKq5 _ _ ?_)
  refine wK fun Kq11 hKq11 => ?_
  refine wR ?_
  refine wg hF rfl rfl rfl (gv_assign rfl (ev_const _ _)) fun a hF => ?_
  refine wN ?_
  refine tN (hKq11 _ _ ?_)
  refine wK fun Kq12 hKq12 => ?_
  refine wK fun Kq13 hKq13 => ?_
  refine wR ?_
  refine wg hF rfl rfl rfl (gv_assign rfl (ev_const _ _)) fun a hF => ?_
  refine wN ?_
  refine tN (hKq13 _ _ ?_)
  refine wp_block ?_
  obtain rfl : k = 16 := by omega
  refine wp_loop_n (fun n a w => ∃ r, r ≤ 10 ∧ n = 10 - r ∧ Fr 113 a [(6, .pointer (some ⟨s, 0, none⟩)), (9, vB (rcon r)), (10, vI (r + 1))] ∧ St w0 w [⟨true, some s, strm (keysR kl r) cl (.slice none 0 0)⟩]) 10 ⟨0, by omega, by omega, hF.sub ⟨rfl, rfl, rfl, trivial⟩, by rw [keysR_zero]; exact hS⟩ ?_
  rintro n a w ⟨r, hr, hnr, hF, hS⟩
  have hKl := keysR_len kl r hr
  refine wK fun Kq14 hKq14 => ?_
  refine wK fun Kq15 hKq15 => ?_
  refine wR ?_
  refine wg hF rfl rfl rfl (gv_move rfl (hF.t rfl)) fun a hF => ?_
  refine wg hF rfl rfl rfl (gv_lss rfl (hF.t rfl) (ev_const _ _)) fun a hF => ?_
  refine wN ?_
  refine tN (hKq15 _ _ ?_)
  refine cond_dec (hF.t rfl) (fun hc48 => ?_) (fun hc48 => ?_)
  ·
   refine wp_skip ?_
   refine tN (hKq14 _ _ ?_)
   refine wK fun Kq16 hKq16 => ?_
   refine wp_block ?_
   refine wK fun Kq17 hKq17 => ?_
   refine wR ?_
   refine wg hF rfl rfl rfl (gv_move rfl (hF.t rfl)) fun a hF => ?_
   refine wg hF rfl rfl rfl (gv_move rfl (hF.t rfl)) fun a hF => ?_
   refine wg hF rfl rfl rfl (gv_nsub (n := 1) rfl (hF.t rfl) rfl (by omega) (by omega)) fun a hF => ?_
   refine wg hF rfl rfl rfl (gv_nilCheck rfl (hF.t rfl)) fun a hF => ?_
   refine wg hF rfl rfl rfl (gv_field (r := 0) rfl u131 rfl rfl z128 (by decide) (hF.t rfl)) fun a hF => ?_
   refine wg hF rfl rfl rfl (gv_indexArr rfl u128 z127 (hF.t rfl) (hF.t rfl) (by omega)) fun a hF => ?_
   refine wg hF rfl rfl rfl (gv_indexArr (q := 3) rfl u127 z126 (hF.t rfl) rfl (by omega)) fun a hF => ?_
   refine wg hF rfl rfl rfl (gv_loadPartAt (j := r * 16 + 12) (vs := ((((keysR kl r).drop (r * 16 + 12)).take 4).map vB)) rfl u126 rfl (z126.trans (congrArg some (by rw [part_len (by omega)]))) (hF.t rfl) (by omega) hS (k := 0) rfl (part_map (by omega))) fun a hF => ?_
   refine wpList_stp (stp_alloc hF (wanted_none rfl) rfl rfl rfl Tryd.zv126 rfl hS fun l a w hF hS => ?_)
   refine wpList_stp (stp_storeAll hF (wanted_none rfl) rfl rfl (z126.trans (congrArg some (by rw [part_len (by omega)]))) (hF.t rfl) (hF.t rfl) (one_B _) hS (k := 0) rfl (by rw [part_len (by omega)]; rfl) fun w hS => ?_)
   refine wN ?_
   refine tN (hKq17 _ _ ?_)
   refine wK fun Kq18 hKq18 => ?_
   refine Fw.wp_region_draw (by kernel_rfl) fun w hx => ?_
   replace hS := hS.ext hx
   clear hx
   refine run_head1 (n := 20) _ 19 12 _ (FlB w 126 ((List.replicate 4 (0 : UInt8)).map vB)) hF (by kernel_rfl) rfl rfl rfl (FlB.lasts w 126 ((List.replicate 4 (0 : UInt8)).map vB)) ?_ (by omega) (by omega)
   refine dw_call hF rfl (wanted_none rfl) rfl rfl Tryd.ok69 rfl Evs.nil (fun w hx => swap_any _) fun a hF => ?_
   refine dg hF rfl rfl rfl rfl (fun w hx => gv_indexArr (q := 1) rfl u126 z5 (hF.t rfl) rfl (by omega)) fun a hF => ?_
   refine dg hF rfl rfl rfl rfl (fun w hx => gv_load rfl u5 rfl (hF.t rfl) (cell_ix ((hS.ext hx).cellB (k := 0) rfl (1) (by simp [hKl]; omega)) (by omega))) fun a hF => ?_
   refine dg hF rfl rfl rfl rfl (fun w hx => gv_indexAggB rfl u136 u5 rfl z5 (hF.t rfl) (hF.t rfl) (UInt8.toNat_lt _) (sw_at _)) fun a hF => ?_
   refine dg hF rfl rfl rfl rfl (fun w hx => gv_move rfl (hF.t rfl)) fun a hF => ?_
   refine dg hF rfl rfl rfl rfl (fun w hx => gv_b_xor rfl (hF.t rfl) (hF.t rfl)) fun a hF => ?_
   refine dw_call hF rfl (wanted_none rfl) rfl rfl Tryd.ok69 rfl Evs.nil (fun w hx => swap_any _) fun a hF => ?_
   refine dg hF rfl rfl rfl rfl (fun w hx => gv_indexArr (q := 2) rfl u126 z5 (hF.t rfl) rfl (by omega)) fun a hF => ?_
   refine dg hF rfl rfl rfl rfl (fun w hx => gv_load rfl u5 rfl (hF.t rfl) (cell_ix ((hS.ext hx).cellB (k := 0) rfl (2) (by simp [hKl]; omega)) (by omega))) fun a hF => ?_
   refine dg hF rfl rfl rfl rfl (fun w hx => gv_indexAggB rfl u136 u5 rfl z5 (hF.t rfl) (hF.t rfl) (UInt8.toNat_lt _) (sw_at _)) fun a hF => ?_
   refine dw_call hF rfl (wanted_none rfl) rfl rfl Tryd.ok69 rfl Evs.nil (fun w hx => swap_any _) fun a hF => ?_
   refine dg hF rfl rfl rfl rfl (fun w hx => gv_indexArr (q := 3) rfl u126 z5 (hF.t rfl) rfl (by omega)) fun a hF => ?_
   refine dg hF rfl rfl rfl rfl (fun w hx => gv_load rfl u5 rfl (hF.t rfl) (cell_ix ((hS.ext hx).cellB (k := 0) rfl (3) (by simp [hKl]; omega)) (by omega))) fun a hF => ?_
   refine dg hF rfl rfl rfl rfl (fun w hx => gv_indexAggB rfl u136 u5 rfl z5 (hF.t rfl) (hF.t rfl) (UInt8.toNat_lt _) (sw_at _)) fun a hF => ?_
   refine dw_call hF rfl (wanted_none rfl) rfl rfl Tryd.ok69 rfl Evs.nil (fun w hx => swap_any _) fun a hF => ?_
   refine dg hF rfl rfl rfl rfl (fun w hx => gv_indexArr (q := 0) rfl u126 z5 (hF.t rfl) rfl (by omega)) fun a hF => ?_
   refine dg hF rfl rfl rfl rfl (fun w hx => gv_load rfl u5 rfl (hF.t rfl) (cell_ix ((hS.ext hx).cellB (k := 0) rfl (0) (by simp [hKl]; omega)) (by omega))) fun a hF => ?_
   refine dg hF rfl rfl rfl rfl (fun w hx => gv_indexAggB rfl u136 u5 rfl z5 (hF.t rfl) (hF.t rfl) (UInt8.toNat_lt _) (sw_at _)) fun a hF => ?_
   refine dg hF rfl rfl rfl rfl (fun w hx => gv_build rfl (EvP.map (EvP.cons (hF.t rfl) (EvP.cons (hF.t rfl) (EvP.cons (hF.t rfl) (EvP.cons (hF.t rfl) EvP.nil))))) (run_buildArr (cs := ((t0 (keysR kl r) r (rcon r)).map vB).toArray) u126 z5 Tryd.zv126 rfl (by rfl))) fun a hF => ?_
   refine dw_fl rfl ?_
   refine dw_nil ⟨fo_alloc rfl Tryd.zv126 rfl, fun a w v hR hA hx => ?_⟩
   obtain ⟨tt, rfl, hR1, hR2⟩ := hR
   replace hF := hA _ hF
   replace hS := hS.float hx hR1 hR2
   clear hA hx hR1 hR2
   refine run_stp (by kernel_rfl) rfl (stp_storeAll hF (wanted_none rfl) rfl rfl (z126.trans (congrArg some (by rfl))) (hF.t rfl) (hF.t rfl) (one_B _) hS (k := 0) rfl (by rfl) fun w hS => ?_)
   refine run_done (by decide) ?_
   refine tN (hKq18 _ _ ?_)
   refine wK fun Kq19 hKq19 => ?_
   refine wR ?_
   refine wg hF rfl rfl rfl (gv_move rfl (hF.t rfl)) fun a hF => ?_
   refine wpList_stp (stp_call hF (wanted_none rfl) rfl rfl Tryd.ok70 rfl (Evs.cons (hF.t rfl) Evs.nil) (double_any _ _) fun e w h => ?_)
   obtain ⟨rfl, hx⟩ := h
   refine ⟨_, rfl, fun a hF => ?_⟩
   replace hS := hS.ext hx
   clear hx
   refine wg hF rfl rfl rfl (gv_assign rfl (hF.t rfl)) fun a hF => ?_
   refine wN ?_
   refine tN (hKq19 _ _ ?_)
   refine wK fun Kq20 hKq20 => ?_
   refine wR ?_
   refine wg hF rfl rfl rfl (gv_move rfl (ev_const _ _)) fun a hF => ?_
   refine wN ?_
   refine tN (hKq20 _ _ ?_)
   refine wp_block ?_
   refine wp_loop_n (fun m a w => ∃ c, c ≤ 4 ∧ m = 4 - c ∧ Fr 113 a [(6, .pointer (some ⟨s, 0, none⟩)), (9, vB (rcon (r + 1))), (10, vI (r + 1)), (12, .pointer (some ⟨tt, 0, none⟩)), (80, vI c)] ∧ St w0 w [⟨true, some tt, blkB 126 (cols (keysR kl r) (t0 (keysR kl r) r (rcon r)) r c).2⟩, ⟨true, some s, strm (cols (keysR kl r) (t0 (keysR kl r) r (rcon r)) r c).1 cl (.slice none 0 0)⟩]) 4 ⟨0, by omega, by omega, hF.sub ⟨rfl, rfl, rfl, rfl, rfl, trivial⟩, hS.drop2 rfl⟩ ?_
   rintro m a w ⟨c, hc4, hm, hF, hS⟩
   have hC := cols_len (t := t0 (keysR kl r) r (rcon r)) (r := r) hKl rfl (by omega) c (by omega)
   refine wK fun Kq21 hKq21 => ?_
   refine wR ?_
   refine wg hF rfl rfl rfl (gv_lss rfl (hF.t rfl) (ev_const _ _)) fun a hF => ?_
   refine wN ?_
   refine tN (hKq21 _ _ ?_)
   refine wK fun Kq22 hKq22 => ?_
   refine cond_dec (hF.t rfl) (fun hc81 => ?_) (fun hc81 => ?_)
   ·
    refine wp_skip ?_
    refine tN (hKq22 _ _ ?_)
    refine wK fun Kq23 hKq23 => ?_
    refine wp_block ?_
    refine wK fun Kq24 hKq24 => ?_
    refine wR ?_
    refine wg hF rfl rfl rfl (gv_move rfl (hF.t rfl)) fun a hF => ?_
    refine wg hF rfl rfl rfl (gv_assign rfl (hF.t rfl)) fun a hF => ?_
    refine wN ?_
    refine tN (hKq24 _ _ ?_)
    refine wK fun Kq25 hKq25 => ?_
    refine wK fun Kq26 hKq26 => ?_
    refine wR ?_
    refine wg hF rfl rfl rfl (gv_move rfl (ev_const _ _)) fun a hF => ?_
    refine wN ?_
    refine tN (hKq26 _ _ ?_)
    refine wp_block ?_
    refine wp_loop_n (fun q a w => ∃ i, i ≤ 4 ∧ q = 4 - i ∧ Fr 113 a [(6, .pointer (some ⟨s, 0, none⟩)), (9, vB (rcon (r + 1))), (10, vI (r + 1)), (12, .pointer (some ⟨tt, 0, none⟩)), (13, vI c), (80, vI c), (83, vI i)] ∧ St w0 w [⟨true, some tt, blkB 126 (xw (cols (keysR kl r) (t0 (keysR kl r) r (rcon r)) r c).1 (cols (keysR kl r) (t0 (keysR kl r) r (rcon r)) r c).2 (r * 16 + c * 4) i)⟩, ⟨true, some s, strm (cols (keysR kl r) (t0 (keysR kl r) r (rcon r)) r c).1 cl (.slice none 0 0)⟩]) 4 ⟨0, by omega, by omega, hF.sub ⟨rfl, rfl, rfl, rfl, rfl, rfl, rfl, trivial⟩, hS⟩ ?_
    rintro q a w ⟨i, hi4, hq, hF, hS⟩
    refine wK fun Kq27 hKq27 => ?_
    refine wR ?_
    refine wg hF rfl rfl rfl (gv_lss rfl (hF.t rfl) (ev_const _ _)) fun a hF => ?_
    refine wN ?_
    refine tN (hKq27 _ _ ?_)
    refine wK fun Kq28 hKq28 => ?_
    refine cond_dec (hF.t rfl) (fun hc84 => ?_) (fun hc84 => ?_)
    ·
     refine wp_skip ?_
     refine tN (hKq28 _ _ ?_)
     refine wK fun Kq29 hKq29 => ?_
     refine wp_block ?_
     refine wK fun Kq30 hKq30 => ?_
     refine wR ?_
     refine wg hF rfl rfl rfl (gv_move rfl (hF.t rfl)) fun a hF => ?_
     refine wg hF rfl rfl rfl (gv_assign rfl (hF.t rfl)) fun a hF => ?_
     refine wN ?_
     refine tN (hKq30 _ _ ?_)
     refine Fw.wp_region_draw (by kernel_rfl) fun w hx => ?_
     replace hS := hS.ext hx
     clear hx
     refine run_head0 (n := 16) _ hF (by kernel_rfl) rfl ?_
     refine dg hF rfl rfl rfl rfl (fun w hx => gv_move rfl (hF.t rfl)) fun a hF => ?_
     refine dg hF rfl rfl rfl rfl (fun w hx => gv_indexArr rfl u126 z5 (hF.t rfl) (hF.t rfl) (by omega)) fun a hF => ?_
     refine dg hF rfl rfl rfl rfl (fun w hx => gv_load rfl u5 rfl (hF.t rfl) (cell_ix ((hS.ext hx).cellB (k := 0) rfl (i) (by rw [xw_len, hC.2]; omega)) (by omega))) fun a hF => ?_
     refine dg hF rfl rfl rfl rfl (fun w hx => gv_move rfl (hF.t rfl)) fun a hF => ?_
     refine dg hF rfl rfl rfl rfl (fun w hx => gv_move rfl (hF.t rfl)) fun a hF => ?_
     refine dg hF rfl rfl rfl rfl (fun w hx => gv_nsub (n := 1) rfl (hF.t rfl) rfl (by omega) (by omega)) fun a hF => ?_
     refine dg hF rfl rfl rfl rfl (fun w hx => gv_move rfl (hF.t rfl)) fun a hF => ?_
     refine dg hF rfl rfl rfl rfl (fun w hx => gv_move rfl (hF.t rfl)) fun a hF => ?_
     refine dg hF rfl rfl rfl rfl (fun w hx => gv_nilCheck rfl (hF.t rfl)) fun a hF => ?_
     refine dg hF rfl rfl rfl rfl (fun w hx => gv_field (r := 0) rfl u131 rfl rfl z128 (by decide) (hF.t rfl)) fun a hF => ?_
     refine dg hF rfl rfl rfl rfl (fun w hx => gv_indexArr rfl u128 z127 (hF.t rfl) (hF.t rfl) (by omega)) fun a hF => ?_
     refine dg hF rfl rfl rfl rfl (fun w hx => gv_indexArr rfl u127 z126 (hF.t rfl) (hF.t rfl) (by omega)) fun a hF => ?_
     refine dg hF rfl rfl rfl rfl (fun w hx => gv_indexArr rfl u126 z5 (hF.t rfl) (hF.t rfl) (by omega)) fun a hF => ?_
     refine dg hF rfl rfl rfl rfl (fun w hx => gv_load rfl u5 rfl (hF.t rfl) (cell_ix (j := r * 16 + c * 4 + i) ((hS.ext hx).cell (k := 1) rfl (at_map (by omega) 0)) (by omega))) fun a hF => ?_
     refine dg hF rfl rfl rfl rfl (fun w hx => gv_b_xor rfl (hF.t rfl) (hF.t rfl)) fun a hF => ?_
     refine dg hF rfl rfl rfl rfl (fun w hx => gv_indexArr rfl u126 z5 (hF.t rfl) (hF.t rfl) (by omega)) fun a hF => ?_
     refine dw_nil fun a w hA hx => ?_
     replace hF := hA _ hF
     replace hS := hS.ext hx
     clear hA hx
     refine run_stp (by kernel_rfl) rfl (stp_storeB (i) hF (wanted_none rfl) rfl rfl z5 (hF.t rfl) (by omega) (hF.t rfl) hS (k := 0) rfl (by rw [xw_len, hC.2]; omega) fun w hS => ?_)
     refine run_done (by decide) ?_
     refine block_normal ?_
     refine tN (hKq29 _ _ ?_)
     refine wR ?_
     refine wg hF rfl rfl rfl (gv_nadd (n := 1) rfl (hF.t rfl) rfl (by omega)) fun a hF => ?_
     refine wg hF rfl rfl rfl (gv_move rfl (hF.t rfl)) fun a hF => ?_
     refine wN ?_
     refine then_normal ?_
     exact ⟨q - 1, by omega, i + 1, by omega, by omega, hF.sub ⟨rfl, rfl, rfl, rfl, rfl, rfl, rfl, trivial⟩, hS⟩
    ·
     refine wp_exit ?_
     refine then_exit ?_
     refine then_exit ?_
     refine block_exit ?_
     refine tN (hKq25 _ _ ?_)
     obtain rfl : i = 4 := by omega
     refine Fw.wp_region_draw (by kernel_rfl) fun w hx => ?_
     replace hS := hS.ext hx
     clear hx
     refine run_head0 (n := 8) _ hF (by kernel_rfl) rfl ?_
     refine dg hF rfl rfl rfl rfl (fun w hx => gv_move rfl (hF.t rfl)) fun a hF => ?_
     refine dg hF rfl rfl rfl rfl (fun w hx => gv_move rfl (hF.t rfl)) fun a hF => ?_
     refine dg hF rfl rfl rfl rfl (fun w hx => gv_move rfl (hF.t rfl)) fun a hF => ?_
     refine dg hF rfl rfl rfl rfl (fun w hx => gv_loadAll rfl u126 rfl (z126.trans (congrArg some (by simp [xw_len, hC.2]))) (hF.t rfl) (hS.ext hx) (k := 0) rfl) fun a hF => ?_
     refine dg hF rfl rfl rfl rfl (fun w hx => gv_nilCheck rfl (hF.t rfl)) fun a hF => ?_
     refine dg hF rfl rfl rfl rfl (fun w hx => gv_field (r := 0) rfl u131 rfl rfl z128 (by decide) (hF.t rfl)) fun a hF => ?_
     refine dg hF rfl rfl rfl rfl (fun w hx => gv_indexArr rfl u128 z127 (hF.t rfl) (hF.t rfl) (by omega)) fun a hF => ?_
     refine dg hF rfl rfl rfl rfl (fun w hx => gv_indexArr rfl u127 z126 (hF.t rfl) (hF.t rfl) (by omega)) fun a hF => ?_
     refine dw_nil fun a w hA hx => ?_
     replace hF := hA _ hF
     replace hS := hS.ext hx
     clear hA hx
     refine run_stp (by kernel_rfl) rfl (stp_storeAggAt ((r + 1) * 16 + c * 4) hF (wanted_none rfl) rfl rfl (z126.trans (congrArg some (by simp [xw_len, hC.2]))) (hF.t rfl) (by omega) (hF.t rfl) (one_B _) hS (k := 1) rfl (by simp [xw_len, hC.2, hC.1]; omega) fun w hS => ?_)
     rw [splice_map (by rw [xw_len, hC.2, hC.1]; omega)] at hS
     refine run_done (by decide) ?_
     refine block_normal ?_
     refine tN (hKq23 _ _ ?_)
     refine wR ?_
     refine wg hF rfl rfl rfl (gv_nadd (n := 1) rfl (hF.t rfl) rfl (by omega)) fun a hF => ?_
     refine wg hF rfl rfl rfl (gv_move rfl (hF.t rfl)) fun a hF => ?_
     refine wN ?_
     refine then_normal ?_
     exact ⟨m - 1, by omega, c + 1, by omega, by omega, hF.sub ⟨rfl, rfl, rfl, rfl, rfl, trivial⟩, hS⟩
   ·
    refine wp_exit ?_
    refine then_exit ?_
    refine then_exit ?_
    refine block_exit ?_
    refine block_normal ?_
    refine tN (hKq16 _ _ ?_)
    refine wR ?_
    refine wg hF rfl rfl rfl (gv_move rfl (hF.t rfl)) fun a hF => ?_
    refine wg hF rfl rfl rfl (gv_nadd (n := 1) rfl (hF.t rfl) rfl (by omega)) fun a hF => ?_
    refine wg hF rfl rfl rfl (gv_assign rfl (hF.t rfl)) fun a hF => ?_
    refine wN ?_
    refine then_normal ?_
    obtain rfl : c = 4 := by omega
    exact ⟨n - 1, by omega, r + 1, by omega, by omega, hF.sub ⟨rfl, rfl, rfl, trivial⟩, by rw [keysR_succ]; exact hS.drop rfl⟩
  ·
   refine wp_exit ?_
   refine then_exit ?_
   refine then_exit ?_
   refine block_exit ?_
   refine tN (hKq12 _ _ ?_)
   refine wK fun Kq31 hKq31 => ?_
   obtain rfl : r = 10 := by omega
   refine wR ?_
   refine wg hF rfl rfl rfl (gv_move rfl (hF.t rfl)) fun a hF => ?_
   refine wg hF rfl rfl rfl (gv_assign rfl (hF.t rfl)) fun a hF => ?_
   refine wg hF rfl rfl rfl (gv_assign rfl (ev_const _ _)) fun a hF => ?_
   refine wN ?_
   refine tN (hKq31 _ _ ?_)
   refine wp_ret ?_
   refine ret2 (fn := Tryd.f52) (t := 4) (u := 5) hF rfl rfl rfl ?_
   exact ⟨s, rfl, hS⟩
def m1 (K bl : List UInt8) : Nat → List UInt8
 | 0 => List.replicate 16 0
 | i + 1 => (m1 K bl i).set i (bl.getD i 0 ^^^ K.getD i 0)
theorem m1_len (K bl : List UInt8) (i : Nat) : (m1 K bl i).length = 16 := by induction i with
 | zero => exact List.length_replicate
 | succ i ih => rw [m1, List.length_set, ih]
def subl (m t : List UInt8) (c : Nat) : Nat → List UInt8
 | 0 => t
 | i + 1 => (subl m t c i).set (c * 4 + i) (sb (m.getD ((c + i) % 4 * 4 + i) 0))
theorem subl_len (m t : List UInt8) (c i : Nat) : (subl m t c i).length = t.length := by induction i with
 | zero => rfl
 | succ i ih => rw [subl, List.length_set, ih]
def mixl (u : List UInt8) (al : UInt8) (t : List UInt8) (c : Nat) : Nat → List UInt8
 | 0 => t
 | i + 1 => (mixl u al t c i).set (c * 4 + i) ((mixl u al t c i).getD (c * 4 + i) 0 ^^^ (al ^^^ dbl (u.getD i 0 ^^^ u.getD ((i + 1) % 4) 0)))
theorem mixl_len (u : List UInt8) (al : UInt8) (t : List UInt8) (c i : Nat) : (mixl u al t c i).length = t.length := by induction i with
 | zero => rfl
 | succ i ih => rw [mixl, List.length_set, ih]
def addl (K t : List UInt8) (r c : Nat) : Nat → List UInt8
 | 0 => t
 | i + 1 => (addl K t r c i).set (c * 4 + i) ((addl K t r c i).getD (c * 4 + i) 0 ^^^ K.getD (r * 16 + c * 4 + i) 0)
theorem addl_len (K t : List UInt8) (r c i : Nat) : (addl K t r c i).length = t.length := by induction i with
 | zero => rfl
 | succ i ih => rw [addl, List.length_set, ih]
def colU (S : List UInt8) (c : Nat) : List UInt8 := (S.drop (c * 4)).take 4
def allU (u : List UInt8) : UInt8 := u.getD 0 0 ^^^ u.getD 1 0 ^^^ u.getD 2 0 ^^^ u.getD 3 0
def mixS (r : Nat) (S : List UInt8) (c : Nat) : List UInt8 := if r < 10 then mixl (colU S c) (allU (colU S c)) S c 4 else S
theorem mixS_len (r : Nat) (S : List UInt8) (c : Nat) : (mixS r S c).length = S.length := by unfold mixS; split <;> simp [mixl_len]
def colT (K m : List UInt8) (r : Nat) : Nat → List UInt8
 | 0 => List.replicate 16 0
 | c + 1 => addl K (mixS r (subl m (colT K m r c) c 4) c) r c 4
theorem colT_len (K m : List UInt8) (r c : Nat) : (colT K m r c).length = 16 := by induction c with
 | zero => exact List.length_replicate
 | succ c ih => rw [colT, addl_len, mixS_len, subl_len, ih]
theorem colT_succ (K m : List UInt8) (r c : Nat) : colT K m r (c + 1) = addl K (mixS r (subl m (colT K m r c) c 4) c) r c 4 := rfl
def blkR (K bl : List UInt8) : Nat → List UInt8
 | 0 => m1 K bl 16
 | r + 1 => colT K (blkR K bl r) (r + 1) 4
theorem blkR_zero (K bl : List UInt8) : blkR K bl 0 = m1 K bl 16 := rfl
theorem blkR_succ (K bl : List UInt8) (r : Nat) : blkR K bl (r + 1) = colT K (blkR K bl r) (r + 1) 4 := rfl
theorem blkR_len (K bl : List UInt8) (r : Nat) : (blkR K bl r).length = 16 := by cases r with
 | zero => exact m1_len K bl 16
 | succ r => exact colT_len _ _ _ _
def outl (b m : List UInt8) : Nat → List UInt8
 | 0 => b
 | i + 1 => (outl b m i).set i (m.getD i 0)
theorem outl_len (b m : List UInt8) (i : Nat) : (outl b m i).length = b.length := by induction i with
 | zero => rfl
 | succ i ih => rw [outl, List.length_set, ih]
def blockF (K bl : List UInt8) : List UInt8 := outl bl (blkR K bl 10) 16
theorem blockF_len {K bl : List UInt8} (h : bl.length = 16) : (blockF K bl).length = 16 := by rw [blockF, outl_len, h]
set_option maxHeartbeats 1000000 in
theorem block_ok {s : Nat} {K C bl : List UInt8} {lv : Value} {w0 : World} (hs : w0.heap[s]? = some (strm K C lv)) (hK : K.length = 176) (hb : bl.length = 16) :
  Calls Tryd.prog 66 #[.pointer (some ⟨s, 0, none⟩), .agg (bl.map vB).toArray] w0 fun e w' => e = .returned (.agg ((blockF K bl).map vB).toArray) ∧ Ext w0 w' := by
 refine calls_start 148 Tryd.func66 rfl Tryd.ntmps66 rfl fun a hF => ?_
 have hS := St.refl w0
 refine wK fun Kq1 hKq1 => ?_
 refine wR ?_
 refine wpList_stp (stp_box hF (wanted_none rfl) rfl rfl rfl (hF.t rfl) rfl hS fun bb a w hF hS => ?_)
 refine wpList_stp (stp_alloc hF (wanted_none rfl) rfl rfl rfl Tryd.zv129 rfl hS fun res a w hF hS => ?_)
 refine wN ?_
 refine tN (hKq1 _ _ ?_)
 refine wK fun Kq2 hKq2 => ?_
 refine wK fun Kq3 hKq3 => ?_
 refine wR ?_
 refine wg hF rfl rfl rfl (gv_move rfl (hF.t rfl)) fun a hF => ?_
 refine wg hF rfl rfl rfl (gv_eqlNil rfl u33 (hF.t rfl) (ev_const _ _)) fun a hF => ?_
 refine wN ?_
 refine tN (hKq3 _ _ ?_)
 refine wp_cond_false (hF.t rfl) ?_
 refine wp_skip ?_
 refine tN (hKq2 _ _ ?_)
 refine wK fun Kq4 hKq4 => ?_
 refine wR ?_
 refine wpList_stp (stp_alloc hF (wanted_none rfl) rfl rfl rfl Tryd.zv127 rfl hS fun mm a w hF hS => ?_)
 refine wN ?_
 refine tN (hKq4 _ _ ?_)
 refine wK fun Kq5 hKq5 => ?_
 refine wK fun Kq6 hKq6 => ?_
 refine wR ?_
 refine wg hF rfl rfl rfl (gv_loadAll rfl u129 rfl (z129.trans (congrArg some (by simp [hb]))) (hF.t rfl) hS (k := 2) rfl) fun a hF => ?_
 refine wg hF rfl rfl rfl (gv_move rfl (ev_const _ _)) fun a hF => ?_
 refine wN ?_
 refine tN (hKq6 _ _ ?_)
 refine wp_block ?_
 refine wp_loop_n (fun n a w => ∃ k, k ≤ 16 ∧ n = 16 - k ∧ Fr 148 a [(0, .pointer (some ⟨s, 0, none⟩)), (3, .pointer (some ⟨bb, 0, none⟩)), (4, .pointer (some ⟨res, 0, none⟩)), (5, .pointer (some ⟨mm, 0, none⟩)), (20, .agg (bl.map vB).toArray), (21, vI k)] ∧ St w0 w [⟨true, some mm, blkB 127 (m1 K bl k)⟩, ⟨true, some res, blkB 129 (List.replicate 16 0)⟩, ⟨true, some bb, blkB 129 bl⟩]) 16 ⟨0, by omega, by omega, hF.sub ⟨rfl, rfl, rfl, rfl, rfl, rfl, trivial⟩, hS⟩ ?_
 rintro n a w ⟨k, hk16, hn, hF, hS⟩
 refine wK fun Kq7 hKq7 => ?_
 refine wR ?_
 refine wg hF rfl rfl rfl (gv_lss rfl (hF.t rfl) (ev_const _ _)) fun a hF => ?_
 refine wN ?_
 refine tN (hKq7 _ _ ?_)
 refine wK fun Kq8 hKq8 => ?_
 refine cond_dec (hF.t rfl) (fun hc22 => ?_) (fun hc22 => ?_)
 ·
  refine wp_skip ?_
  refine tN (hKq8 _ _ ?_)
  refine wK fun Kq9 hKq9 => ?_
  refine wp_block ?_
  refine wK fun Kq10 hKq10 => ?_
  refine wR ?_
  refine wg hF rfl rfl rfl (gv_move rfl (hF.t rfl)) fun a hF => ?_
  refine wg hF rfl rfl rfl (gv_indexAgg rfl u129 u5 rfl z5 (hF.t rfl) (hF.t rfl) (by omega) (arr_at (by omega) 0)) fun a hF => ?_
  refine wg hF rfl rfl rfl (gv_assign rfl (hF.t rfl)) fun a hF => ?_
  refine wg hF rfl rfl rfl (gv_assign rfl (hF.t rfl)) fun a hF => ?_
  refine wN ?_
  refine tN (hKq10 _ _ ?_)
  refine Fw.wp_region_draw (by kernel_rfl) fun w hx => ?_
  replace hS := hS.ext hx
  clear hx
  refine run_head0 (n := 19) _ hF (by kernel_rfl) rfl ?_
  refine dg hF rfl rfl rfl rfl (fun w hx => gv_move rfl (hF.t rfl)) fun a hF => ?_
  refine dg hF rfl rfl rfl rfl (fun w hx => gv_nquo (n := 4) rfl (hF.t rfl) rfl (by omega) (by omega)) fun a hF => ?_
  refine dg hF rfl rfl rfl rfl (fun w hx => gv_move rfl (hF.t rfl)) fun a hF => ?_
  refine dg hF rfl rfl rfl rfl (fun w hx => gv_nrem (n := 4) rfl (hF.t rfl) rfl (by omega)) fun a hF => ?_
  refine dg hF rfl rfl rfl rfl (fun w hx => gv_move rfl (hF.t rfl)) fun a hF => ?_
  refine dg hF rfl rfl rfl rfl (fun w hx => gv_move rfl (hF.t rfl)) fun a hF => ?_
  refine dg hF rfl rfl rfl rfl (fun w hx => gv_move rfl (hF.t rfl)) fun a hF => ?_
  refine dg hF rfl rfl rfl rfl (fun w hx => gv_nquo (n := 4) rfl (hF.t rfl) rfl (by omega) (by omega)) fun a hF => ?_
  refine dg hF rfl rfl rfl rfl (fun w hx => gv_move rfl (hF.t rfl)) fun a hF => ?_
  refine dg hF rfl rfl rfl rfl (fun w hx => gv_nrem (n := 4) rfl (hF.t rfl) rfl (by omega)) fun a hF => ?_
  refine dg hF rfl rfl rfl rfl (fun w hx => gv_nilCheck rfl (hF.t rfl)) fun a hF => ?_
  refine dg hF rfl rfl rfl rfl (fun w hx => gv_field (r := 0) rfl u131 rfl rfl z128 (by decide) (hF.t rfl)) fun a hF => ?_
  refine dg hF rfl rfl rfl rfl (fun w hx => gv_indexArr (q := 0) rfl u128 z127 (hF.t rfl) rfl (by omega)) fun a hF => ?_
  refine dg hF rfl rfl rfl rfl (fun w hx => gv_indexArr rfl u127 z126 (hF.t rfl) (hF.t rfl) (by omega)) fun a hF => ?_
  refine dg hF rfl rfl rfl rfl (fun w hx => gv_indexArr rfl u126 z5 (hF.t rfl) (hF.t rfl) (by omega)) fun a hF => ?_
  refine dg hF rfl rfl rfl rfl (fun w hx => gv_load rfl u5 rfl (hF.t rfl) (cell_ix (j := k) (cell_of ((((hS.ext hx)).toExt (by simp)).keep hs) (at_map (by omega) 0)) (by omega))) fun a hF => ?_
  refine dg hF rfl rfl rfl rfl (fun w hx => gv_b_xor rfl (hF.t rfl) (hF.t rfl)) fun a hF => ?_
  refine dg hF rfl rfl rfl rfl (fun w hx => gv_indexArr rfl u127 z126 (hF.t rfl) (hF.t rfl) (by omega)) fun a hF => ?_
  refine dg hF rfl rfl rfl rfl (fun w hx => gv_indexArr rfl u126 z5 (hF.t rfl) (hF.t rfl) (by omega)) fun a hF => ?_
  refine dw_nil fun a w hA hx => ?_
  replace hF := hA _ hF
  replace hS := hS.ext hx
  clear hA hx
  refine run_stp (by kernel_rfl) rfl (stp_storeB (k) hF (wanted_none rfl) rfl rfl z5 (hF.t rfl) (by omega) (hF.t rfl) hS (k := 0) rfl (by rw [m1_len]; omega) fun w hS => ?_)
  refine run_done (by decide) ?_
  refine block_normal ?_
  refine tN (hKq9 _ _ ?_)
  refine wR ?_
  refine wg hF rfl rfl rfl (gv_nadd (n := 1) rfl (hF.t rfl) rfl (by omega)) fun a hF => ?_
  refine wg hF rfl rfl rfl (gv_move rfl (hF.t rfl)) fun a hF => ?_
  refine wN ?_
  refine then_normal ?_
  exact ⟨n - 1, by omega, k + 1, by omega, by omega, hF.sub ⟨rfl, rfl, rfl, rfl, rfl, rfl, trivial⟩, hS⟩
 ·
  refine wp_exit ?_
  refine then_exit ?_
  refine then_exit ?_
  refine block_exit ?_
  refine tN (hKq5 _ _ ?_)
  refine wK fun Kq11 hKq11 => ?_
  refine wK fun Kq12 hKq12 => ?_
  refine wR ?_
  refine wg hF rfl rfl rfl (gv_assign rfl (ev_const _ _)) fun a hF => ?_
  refine wN ?_
  refine tN (hKq12 _ _ ?_)
  refine wp_block ?_
  obtain rfl : k = 16 := by omega
  refine wp_loop_n (fun n a w => ∃ r, r ≤ 10 ∧ n = 10 - r ∧ Fr 148 a [(0, .pointer (some ⟨s, 0, none⟩)), (3, .pointer (some ⟨bb, 0, none⟩)), (4, .pointer (some ⟨res, 0, none⟩)), (5, .pointer (some ⟨mm, 0, none⟩)), (8, vI (r + 1))] ∧ St w0 w [⟨true, some mm, blkB 127 (blkR K bl r)⟩, ⟨true, some res, blkB 129 (List.replicate 16 0)⟩, ⟨true, some bb, blkB 129 bl⟩]) 10 ⟨0, by omega, by omega, hF.sub ⟨rfl, rfl, rfl, rfl, rfl, trivial⟩, by rw [blkR_zero]; exact hS⟩ ?_
  rintro n a w ⟨r, hr, hn, hF, hS⟩
  refine wK fun Kq13 hKq13 => ?_
  refine wK fun Kq14 hKq14 => ?_
  refine wR ?_
  refine wg hF rfl rfl rfl (gv_move rfl (hF.t rfl)) fun a hF => ?_
  refine wg hF rfl rfl rfl (gv_lss rfl (hF.t rfl) (ev_const _ _)) fun a hF => ?_
  refine wN ?_
  refine tN (hKq14 _ _ ?_)
  refine cond_dec (hF.t rfl) (fun hc46 => ?_) (fun hc46 => ?_)
  ·
   refine wp_skip ?_
   refine tN (hKq13 _ _ ?_)
   refine wK fun Kq15 hKq15 => ?_
   refine wp_block ?_
   refine wK fun Kq16 hKq16 => ?_
   refine wR ?_
   refine wpList_stp (stp_alloc hF (wanted_none rfl) rfl rfl rfl Tryd.zv127 rfl hS fun tt a w hF hS => ?_)
   refine wN ?_
   refine tN (hKq16 _ _ ?_)
   refine wK fun Kq17 hKq17 => ?_
   refine wK fun Kq18 hKq18 => ?_
   refine wR ?_
   refine wg hF rfl rfl rfl (gv_move rfl (ev_const _ _)) fun a hF => ?_
   refine wN ?_
   refine tN (hKq18 _ _ ?_)
   refine wp_block ?_
   refine wp_loop_n (fun m a w => ∃ c, c ≤ 4 ∧ m = 4 - c ∧ Fr 148 a [(0, .pointer (some ⟨s, 0, none⟩)), (3, .pointer (some ⟨bb, 0, none⟩)), (4, .pointer (some ⟨res, 0, none⟩)), (5, .pointer (some ⟨mm, 0, none⟩)), (8, vI (r + 1)), (9, .pointer (some ⟨tt, 0, none⟩)), (49, vI c)] ∧ St w0 w [⟨true, some tt, blkB 127 (colT K (blkR K bl r) (r + 1) c)⟩, ⟨true, some mm, blkB 127 (blkR K bl r)⟩, ⟨true, some res, blkB 129 (List.replicate 16 0)⟩, ⟨true, some bb, blkB 129 bl⟩]) 4 ⟨0, by omega, by omega, hF.sub ⟨rfl, rfl, rfl, rfl, rfl, rfl, rfl, trivial⟩, hS⟩ ?_
   rintro m a w ⟨c, hc4, hm, hF, hS⟩
   refine wK fun Kq19 hKq19 => ?_
   refine wR ?_
   refine wg hF rfl rfl rfl (gv_lss rfl (hF.t rfl) (ev_const _ _)) fun a hF => ?_
   refine wN ?_
   refine tN (hKq19 _ _ ?_)
   refine wK fun Kq20 hKq20 => ?_
   refine cond_dec (hF.t rfl) (fun hc50 => ?_) (fun hc50 => ?_)
   ·
    refine wp_skip ?_
    refine tN (hKq20 _ _ ?_)
    refine wK fun Kq21 hKq21 => ?_
    refine wp_block ?_
    refine wK fun Kq22 hKq22 => ?_
    refine wR ?_
    refine wg hF rfl rfl rfl (gv_move rfl (hF.t rfl)) fun a hF => ?_
    refine wg hF rfl rfl rfl (gv_assign rfl (hF.t rfl)) fun a hF => ?_
    refine wN ?_
    refine tN (hKq22 _ _ ?_)
    refine wK fun Kq23 hKq23 => ?_
    refine wK fun Kq24 hKq24 => ?_
    refine wR ?_
    refine wg hF rfl rfl rfl (gv_move rfl (ev_const _ _)) fun a hF => ?_
    refine wN ?_
    refine tN (hKq24 _ _ ?_)
    refine wp_block ?_
    refine wp_loop_n (fun q a w => ∃ i, i ≤ 4 ∧ q = 4 - i ∧ Fr 148 a [(0, .pointer (some ⟨s, 0, none⟩)), (3, .pointer (some ⟨bb, 0, none⟩)), (4, .pointer (some ⟨res, 0, none⟩)), (5, .pointer (some ⟨mm, 0, none⟩)), (8, vI (r + 1)), (9, .pointer (some ⟨tt, 0, none⟩)), (10, vI c), (49, vI c), (52, vI i)] ∧ St w0 w [⟨true, some tt, blkB 127 (subl (blkR K bl r) (colT K (blkR K bl r) (r + 1) c) c i)⟩, ⟨true, some mm, blkB 127 (blkR K bl r)⟩, ⟨true, some res, blkB 129 (List.replicate 16 0)⟩, ⟨true, some bb, blkB 129 bl⟩]) 4 ⟨0, by omega, by omega, hF.sub ⟨rfl, rfl, rfl, rfl, rfl, rfl, rfl, rfl, rfl, trivial⟩, hS⟩ ?_
    rintro q a w ⟨i, hi4, hq, hF, hS⟩
    refine wK fun Kq25 hKq25 => ?_
    refine wR ?_
    refine wg hF rfl rfl rfl (gv_lss rfl (hF.t rfl) (ev_const _ _)) fun a hF => ?_
    refine wN ?_
    refine tN (hKq25 _ _ ?_)
    refine wK fun Kq26 hKq26 => ?_
    refine cond_dec (hF.t rfl) (fun hc53 => ?_) (fun hc53 => ?_)
    ·
     refine wp_skip ?_
     refine tN (hKq26 _ _ ?_)
     refine wK fun Kq27 hKq27 => ?_
     refine wp_block ?_
     refine wK fun Kq28 hKq28 => ?_
     refine wR ?_
     refine wg hF rfl rfl rfl (gv_move rfl (hF.t rfl)) fun a hF => ?_
     refine wg hF rfl rfl rfl (gv_assign rfl (hF.t rfl)) fun a hF => ?_
     refine wN ?_
     refine tN (hKq28 _ _ ?_)
     refine Fw.wp_region_draw (by kernel_rfl) fun w hx => ?_
     replace hS := hS.ext hx
     clear hx
     refine run_head0 (n := 14) _ hF (by kernel_rfl) rfl ?_
     refine dg hF rfl rfl rfl rfl (fun w hx => gv_move rfl (hF.t rfl)) fun a hF => ?_
     refine dg hF rfl rfl rfl rfl (fun w hx => gv_move rfl (hF.t rfl)) fun a hF => ?_
     refine dw_call hF rfl (wanted_none rfl) rfl rfl Tryd.ok69 rfl Evs.nil (fun w hx => swap_any _) fun a hF => ?_
     refine dg hF rfl rfl rfl rfl (fun w hx => gv_move rfl (hF.t rfl)) fun a hF => ?_
     refine dg hF rfl rfl rfl rfl (fun w hx => gv_move rfl (hF.t rfl)) fun a hF => ?_
     refine dg hF rfl rfl rfl rfl (fun w hx => gv_nadd rfl (hF.t rfl) (hF.t rfl) (by omega)) fun a hF => ?_
     refine dg hF rfl rfl rfl rfl (fun w hx => gv_nrem (n := 4) rfl (hF.t rfl) rfl (by omega)) fun a hF => ?_
     refine dg hF rfl rfl rfl rfl (fun w hx => gv_move rfl (hF.t rfl)) fun a hF => ?_
     refine dg hF rfl rfl rfl rfl (fun w hx => gv_indexArr rfl u127 z126 (hF.t rfl) (hF.t rfl) (by omega)) fun a hF => ?_
     refine dg hF rfl rfl rfl rfl (fun w hx => gv_indexArr rfl u126 z5 (hF.t rfl) (hF.t rfl) (by omega)) fun a hF => ?_
     refine dg hF rfl rfl rfl rfl (fun w hx => gv_load rfl u5 rfl (hF.t rfl) (cell_ix ((hS.ext hx).cellB (k := 1) rfl ((c + i) % 4 * 4 + i) (by rw [blkR_len]; omega)) (by omega))) fun a hF => ?_
     refine dg hF rfl rfl rfl rfl (fun w hx => gv_indexAggB rfl u136 u5 rfl z5 (hF.t rfl) (hF.t rfl) (UInt8.toNat_lt _) (sw_at _)) fun a hF => ?_
     refine dg hF rfl rfl rfl rfl (fun w hx => gv_indexArr rfl u127 z126 (hF.t rfl) (hF.t rfl) (by omega)) fun a hF => ?_
     refine dg hF rfl rfl rfl rfl (fun w hx => gv_indexArr rfl u126 z5 (hF.t rfl) (hF.t rfl) (by omega)) fun a hF => ?_
     refine dw_nil fun a w hA hx => ?_
     replace hF := hA _ hF
     replace hS := hS.ext hx
     clear hA hx
     refine run_stp (by kernel_rfl) rfl (stp_storeB (c * 4 + i) hF (wanted_none rfl) rfl rfl z5 (hF.t rfl) (by omega) (hF.t rfl) hS (k := 0) rfl (by rw [subl_len, colT_len]; omega) fun w hS => ?_)
     refine run_done (by decide) ?_
     refine block_normal ?_
     refine tN (hKq27 _ _ ?_)
     refine wR ?_
     refine wg hF rfl rfl rfl (gv_nadd (n := 1) rfl (hF.t rfl) rfl (by omega)) fun a hF => ?_
     refine wg hF rfl rfl rfl (gv_move rfl (hF.t rfl)) fun a hF => ?_
     refine wN ?_
     refine then_normal ?_
     exact ⟨q - 1, by omega, i + 1, by omega, by omega, hF.sub ⟨rfl, rfl, rfl, rfl, rfl, rfl, rfl, rfl, rfl, trivial⟩, hS⟩
    ·
     refine wp_exit ?_
     refine then_exit ?_
     refine then_exit ?_
     refine block_exit ?_
     refine tN (hKq23 _ _ ?_)
     refine wp_cut (fun a w => Fr 148 a [(0, .pointer (some ⟨s, 0, none⟩)), (3, .pointer (some ⟨bb, 0, none⟩)), (4, .pointer (some ⟨res, 0, none⟩)), (5, .pointer (some ⟨mm, 0, none⟩)), (8, vI (r + 1)), (9, .pointer (some ⟨tt, 0, none⟩)), (10, vI c), (49, vI c)] ∧ St w0 w [⟨true, some tt, blkB 127 (mixS (r + 1) (subl (blkR K bl r) (colT K (blkR K bl r) (r + 1) c) c 4) c)⟩, ⟨true, some mm, blkB 127 (blkR K bl r)⟩, ⟨true, some res, blkB 129 (List.replicate 16 0)⟩, ⟨true, some bb, blkB 129 bl⟩]) ?_ ?_
     ·
      refine wK fun Kq29 hKq29 => ?_
      obtain rfl : i = 4 := by omega
      have hlS : c * 4 + 4 ≤ (subl (blkR K bl r) (colT K (blkR K bl r) (r + 1) c) c 4).length := by rw [subl_len, colT_len]; omega
      have hlU : (colU (subl (blkR K bl r) (colT K (blkR K bl r) (r + 1) c) c 4) c).length = 4 := by rw [colU, List.length_take, List.length_drop]; omega
      refine wR ?_
      refine wg hF rfl rfl rfl (gv_move rfl (hF.t rfl)) fun a hF => ?_
      refine wg hF rfl rfl rfl (gv_lss rfl (hF.t rfl) (ev_const _ _)) fun a hF => ?_
      refine wN ?_
      refine tN (hKq29 _ _ ?_)
      refine cond_dec (hF.t rfl) (fun hc71 => ?_) (fun hc71 => ?_)
      ·
       refine wK fun Kq30 hKq30 => ?_
       refine wR ?_
       refine wg hF rfl rfl rfl (gv_move rfl (hF.t rfl)) fun a hF => ?_
       refine wg hF rfl rfl rfl (gv_indexArr rfl u127 z126 (hF.t rfl) (hF.t rfl) (by omega)) fun a hF => ?_
       refine wg hF rfl rfl rfl (gv_loadPartAt (j := c * 4) (vs := ((colU (subl (blkR K bl r) (colT K (blkR K bl r) (r + 1) c) c 4) c).map vB)) rfl u126 rfl (z126.trans (congrArg some (by rw [colU, part_len hlS]))) (hF.t rfl) (by omega) hS (k := 0) rfl (part_map0 hlS)) fun a hF => ?_
       refine wpList_stp (stp_alloc hF (wanted_none rfl) rfl rfl rfl Tryd.zv126 rfl hS fun u a w hF hS => ?_)
       refine wpList_stp (stp_storeAll hF (wanted_none rfl) rfl rfl (z126.trans (congrArg some (by rw [colU, part_len hlS]))) (hF.t rfl) (hF.t rfl) (one_B _) hS (k := 0) rfl (by rw [colU, part_len hlS]; rfl) fun w hS => ?_)
       refine wN ?_
       refine tN (hKq30 _ _ ?_)
       refine wK fun Kq31 hKq31 => ?_
       refine wR ?_
       refine wg hF rfl rfl rfl (gv_indexArr (q := 0) rfl u126 z5 (hF.t rfl) rfl (by omega)) fun a hF => ?_
       refine wg hF rfl rfl rfl (gv_load rfl u5 rfl (hF.t rfl) (cell_ix (hS.cellB (k := 0) rfl (0) (by rw [hlU]; omega)) (by omega))) fun a hF => ?_
       refine wg hF rfl rfl rfl (gv_indexArr (q := 1) rfl u126 z5 (hF.t rfl) rfl (by omega)) fun a hF => ?_
       refine wg hF rfl rfl rfl (gv_load rfl u5 rfl (hF.t rfl) (cell_ix (hS.cellB (k := 0) rfl (1) (by rw [hlU]; omega)) (by omega))) fun a hF => ?_
       refine wg hF rfl rfl rfl (gv_b_xor rfl (hF.t rfl) (hF.t rfl)) fun a hF => ?_
       refine wg hF rfl rfl rfl (gv_indexArr (q := 2) rfl u126 z5 (hF.t rfl) rfl (by omega)) fun a hF => ?_
       refine wg hF rfl rfl rfl (gv_load rfl u5 rfl (hF.t rfl) (cell_ix (hS.cellB (k := 0) rfl (2) (by rw [hlU]; omega)) (by omega))) fun a hF => ?_
       refine wg hF rfl rfl rfl (gv_b_xor rfl (hF.t rfl) (hF.t rfl)) fun a hF => ?_
       refine wg hF rfl rfl rfl (gv_indexArr (q := 3) rfl u126 z5 (hF.t rfl) rfl (by omega)) fun a hF => ?_
       refine wg hF rfl rfl rfl (gv_load rfl u5 rfl (hF.t rfl) (cell_ix (hS.cellB (k := 0) rfl (3) (by rw [hlU]; omega)) (by omega))) fun a hF => ?_
       refine wg hF rfl rfl rfl (gv_b_xor rfl (hF.t rfl) (hF.t rfl)) fun a hF => ?_
       refine wg hF rfl rfl rfl (gv_assign rfl (hF.t rfl)) fun a hF => ?_
       refine wN ?_
       refine tN (hKq31 _ _ ?_)
       refine wK fun Kq32 hKq32 => ?_
       refine wR ?_
       refine wg hF rfl rfl rfl (gv_move rfl (ev_const _ _)) fun a hF => ?_
       refine wN ?_
       refine tN (hKq32 _ _ ?_)
       refine wp_block ?_
       refine wp_loop_n (fun q a w => ∃ i, i ≤ 4 ∧ q = 4 - i ∧ Fr 148 a [(0, .pointer (some ⟨s, 0, none⟩)), (3, .pointer (some ⟨bb, 0, none⟩)), (4, .pointer (some ⟨res, 0, none⟩)), (5, .pointer (some ⟨mm, 0, none⟩)), (8, vI (r + 1)), (9, .pointer (some ⟨tt, 0, none⟩)), (10, vI c), (12, .pointer (some ⟨u, 0, none⟩)), (13, vB (allU (colU (subl (blkR K bl r) (colT K (blkR K bl r) (r + 1) c) c 4) c))), (49, vI c), (86, vI i)] ∧ St w0 w [⟨true, some u, blkB 126 (colU (subl (blkR K bl r) (colT K (blkR K bl r) (r + 1) c) c 4) c)⟩, ⟨true, some tt, blkB 127 (mixl (colU (subl (blkR K bl r) (colT K (blkR K bl r) (r + 1) c) c 4) c) (allU (colU (subl (blkR K bl r) (colT K (blkR K bl r) (r + 1) c) c 4) c)) (subl (blkR K bl r) (colT K (blkR K bl r) (r + 1) c) c 4) c i)⟩, ⟨true, some mm, blkB 127 (blkR K bl r)⟩, ⟨true, some res, blkB 129 (List.replicate 16 0)⟩, ⟨true, some bb, blkB 129 bl⟩]) 4 ⟨0, by omega, by omega, hF.sub ⟨rfl, rfl, rfl, rfl, rfl, rfl, rfl, rfl, rfl, rfl, rfl, trivial⟩, hS⟩ ?_
       rintro q a w ⟨i, hi4, hq, hF, hS⟩
       refine wK fun Kq33 hKq33 => ?_
       refine wR ?_
       refine wg hF rfl rfl rfl (gv_lss rfl (hF.t rfl) (ev_const _ _)) fun a hF => ?_
       refine wN ?_
       refine tN (hKq33 _ _ ?_)
       refine wK fun Kq34 hKq34 => ?_
       refine cond_dec (hF.t rfl) (fun hc87 => ?_) (fun hc87 => ?_)
       ·
        refine wp_skip ?_
        refine tN (hKq34 _ _ ?_)
        refine wK fun Kq35 hKq35 => ?_
        refine wp_block ?_
        refine wK fun Kq36 hKq36 => ?_
        refine wR ?_
        refine wg hF rfl rfl rfl (gv_move rfl (hF.t rfl)) fun a hF => ?_
        refine wg hF rfl rfl rfl (gv_assign rfl (hF.t rfl)) fun a hF => ?_
        refine wN ?_
        refine tN (hKq36 _ _ ?_)
        refine Fw.wp_region_draw (by kernel_rfl) fun w hx => ?_
        replace hS := hS.ext hx
        clear hx
        refine run_head0 (n := 20) _ hF (by kernel_rfl) rfl ?_
        refine dg hF rfl rfl rfl rfl (fun w hx => gv_move rfl (hF.t rfl)) fun a hF => ?_
        refine dg hF rfl rfl rfl rfl (fun w hx => gv_move rfl (hF.t rfl)) fun a hF => ?_
        refine dg hF rfl rfl rfl rfl (fun w hx => gv_indexArr rfl u127 z126 (hF.t rfl) (hF.t rfl) (by omega)) fun a hF => ?_
        refine dg hF rfl rfl rfl rfl (fun w hx => gv_indexArr rfl u126 z5 (hF.t rfl) (hF.t rfl) (by omega)) fun a hF => ?_
        refine dg hF rfl rfl rfl rfl (fun w hx => gv_load rfl u5 rfl (hF.t rfl) (cell_ix ((hS.ext hx).cellB (k := 1) rfl (c * 4 + i) (by rw [mixl_len, subl_len, colT_len]; omega)) (by omega))) fun a hF => ?_
        refine dg hF rfl rfl rfl rfl (fun w hx => gv_move rfl (hF.t rfl)) fun a hF => ?_
        refine dg hF rfl rfl rfl rfl (fun w hx => gv_move rfl (hF.t rfl)) fun a hF => ?_
        refine dg hF rfl rfl rfl rfl (fun w hx => gv_indexArr rfl u126 z5 (hF.t rfl) (hF.t rfl) (by omega)) fun a hF => ?_
        refine dg hF rfl rfl rfl rfl (fun w hx => gv_load rfl u5 rfl (hF.t rfl) (cell_ix ((hS.ext hx).cellB (k := 0) rfl (i) (by rw [hlU]; omega)) (by omega))) fun a hF => ?_
        refine dg hF rfl rfl rfl rfl (fun w hx => gv_move rfl (hF.t rfl)) fun a hF => ?_
        refine dg hF rfl rfl rfl rfl (fun w hx => gv_nadd (n := 1) rfl (hF.t rfl) rfl (by omega)) fun a hF => ?_
        refine dg hF rfl rfl rfl rfl (fun w hx => gv_nrem (n := 4) rfl (hF.t rfl) rfl (by omega)) fun a hF => ?_
        refine dg hF rfl rfl rfl rfl (fun w hx => gv_indexArr rfl u126 z5 (hF.t rfl) (hF.t rfl) (by omega)) fun a hF => ?_
        refine dg hF rfl rfl rfl rfl (fun w hx => gv_load rfl u5 rfl (hF.t rfl) (cell_ix ((hS.ext hx).cellB (k := 0) rfl ((i + 1) % 4) (by rw [hlU]; omega)) (by omega))) fun a hF => ?_
        refine dg hF rfl rfl rfl rfl (fun w hx => gv_b_xor rfl (hF.t rfl) (hF.t rfl)) fun a hF => ?_
        refine dw_call hF rfl (wanted_none rfl) rfl rfl Tryd.ok70 rfl (Evs.cons (hF.t rfl) Evs.nil) (fun w hx => double_any _ _) fun a hF => ?_
        refine dg hF rfl rfl rfl rfl (fun w hx => gv_b_xor rfl (hF.t rfl) (hF.t rfl)) fun a hF => ?_
        refine dg hF rfl rfl rfl rfl (fun w hx => gv_b_xor rfl (hF.t rfl) (hF.t rfl)) fun a hF => ?_
        refine dg hF rfl rfl rfl rfl (fun w hx => gv_indexArr rfl u127 z126 (hF.t rfl) (hF.t rfl) (by omega)) fun a hF => ?_
        refine dg hF rfl rfl rfl rfl (fun w hx => gv_indexArr rfl u126 z5 (hF.t rfl) (hF.t rfl) (by omega)) fun a hF => ?_
        refine dw_nil fun a w hA hx => ?_
        replace hF := hA _ hF
        replace hS := hS.ext hx
        clear hA hx
        refine run_stp (by kernel_rfl) rfl (stp_storeB (c * 4 + i) hF (wanted_none rfl) rfl rfl z5 (hF.t rfl) (by omega) (hF.t rfl) hS (k := 1) rfl (by rw [mixl_len, subl_len, colT_len]; omega) fun w hS => ?_)
        refine run_done (by decide) ?_
        refine block_normal ?_
        refine tN (hKq35 _ _ ?_)
        refine wR ?_
        refine wg hF rfl rfl rfl (gv_nadd (n := 1) rfl (hF.t rfl) rfl (by omega)) fun a hF => ?_
        refine wg hF rfl rfl rfl (gv_move rfl (hF.t rfl)) fun a hF => ?_
        refine wN ?_
        refine then_normal ?_
        exact ⟨q - 1, by omega, i + 1, by omega, by omega, hF.sub ⟨rfl, rfl, rfl, rfl, rfl, rfl, rfl, rfl, rfl, rfl, rfl, trivial⟩, hS⟩
       ·
        refine wp_exit ?_
        refine then_exit ?_
        refine then_exit ?_
        refine block_exit ?_
        refine then_normal ?_
        obtain rfl : i = 4 := by omega
        exact ⟨hF.sub ⟨rfl, rfl, rfl, rfl, rfl, rfl, rfl, rfl, trivial⟩, by rw [mixS, if_pos (by omega)]; exact hS.drop rfl⟩
      ·
       refine wp_skip ?_
       refine then_normal ?_
       exact ⟨hF.sub ⟨rfl, rfl, rfl, rfl, rfl, rfl, rfl, rfl, trivial⟩, by rw [mixS, if_neg (by omega)]; exact hS⟩
     ·
      rintro a w ⟨hF, hS⟩
      refine wK fun Kq37 hKq37 => ?_
      refine wR ?_
      refine wg hF rfl rfl rfl (gv_move rfl (ev_const _ _)) fun a hF => ?_
      refine wN ?_
      refine tN (hKq37 _ _ ?_)
      refine wp_block ?_
      refine wp_loop_n (fun q a w => ∃ i, i ≤ 4 ∧ q = 4 - i ∧ Fr 148 a [(0, .pointer (some ⟨s, 0, none⟩)), (3, .pointer (some ⟨bb, 0, none⟩)), (4, .pointer (some ⟨res, 0, none⟩)), (5, .pointer (some ⟨mm, 0, none⟩)), (8, vI (r + 1)), (9, .pointer (some ⟨tt, 0, none⟩)), (10, vI c), (49, vI c), (110, vI i)] ∧ St w0 w [⟨true, some tt, blkB 127 (addl K (mixS (r + 1) (subl (blkR K bl r) (colT K (blkR K bl r) (r + 1) c) c 4) c) (r + 1) c i)⟩, ⟨true, some mm, blkB 127 (blkR K bl r)⟩, ⟨true, some res, blkB 129 (List.replicate 16 0)⟩, ⟨true, some bb, blkB 129 bl⟩]) 4 ⟨0, by omega, by omega, hF.sub ⟨rfl, rfl, rfl, rfl, rfl, rfl, rfl, rfl, rfl, trivial⟩, hS⟩ ?_
      rintro q a w ⟨i, hi4, hq, hF, hS⟩
      refine wK fun Kq38 hKq38 => ?_
      refine wR ?_
      refine wg hF rfl rfl rfl (gv_lss rfl (hF.t rfl) (ev_const _ _)) fun a hF => ?_
      refine wN ?_
      refine tN (hKq38 _ _ ?_)
      refine wK fun Kq39 hKq39 => ?_
      refine cond_dec (hF.t rfl) (fun hc111 => ?_) (fun hc111 => ?_)
      ·
       refine wp_skip ?_
       refine tN (hKq39 _ _ ?_)
       refine wK fun Kq40 hKq40 => ?_
       refine wp_block ?_
       refine wK fun Kq41 hKq41 => ?_
       refine wR ?_
       refine wg hF rfl rfl rfl (gv_move rfl (hF.t rfl)) fun a hF => ?_
       refine wg hF rfl rfl rfl (gv_assign rfl (hF.t rfl)) fun a hF => ?_
       refine wN ?_
       refine tN (hKq41 _ _ ?_)
       refine Fw.wp_region_draw (by kernel_rfl) fun w hx => ?_
       replace hS := hS.ext hx
       clear hx
       refine run_head0 (n := 18) _ hF (by kernel_rfl) rfl ?_
       refine dg hF rfl rfl rfl rfl (fun w hx => gv_move rfl (hF.t rfl)) fun a hF => ?_
       refine dg hF rfl rfl rfl rfl (fun w hx => gv_move rfl (hF.t rfl)) fun a hF => ?_
       refine dg hF rfl rfl rfl rfl (fun w hx => gv_indexArr rfl u127 z126 (hF.t rfl) (hF.t rfl) (by omega)) fun a hF => ?_
       refine dg hF rfl rfl rfl rfl (fun w hx => gv_indexArr rfl u126 z5 (hF.t rfl) (hF.t rfl) (by omega)) fun a hF => ?_
       refine dg hF rfl rfl rfl rfl (fun w hx => gv_load rfl u5 rfl (hF.t rfl) (cell_ix ((hS.ext hx).cellB (k := 0) rfl (c * 4 + i) (by rw [addl_len, mixS_len, subl_len, colT_len]; omega)) (by omega))) fun a hF => ?_
       refine dg hF rfl rfl rfl rfl (fun w hx => gv_move rfl (hF.t rfl)) fun a hF => ?_
       refine dg hF rfl rfl rfl rfl (fun w hx => gv_move rfl (hF.t rfl)) fun a hF => ?_
       refine dg hF rfl rfl rfl rfl (fun w hx => gv_move rfl (hF.t rfl)) fun a hF => ?_
       refine dg hF rfl rfl rfl rfl (fun w hx => gv_move rfl (hF.t rfl)) fun a hF => ?_
       refine dg hF rfl rfl rfl rfl (fun w hx => gv_nilCheck rfl (hF.t rfl)) fun a hF => ?_
       refine dg hF rfl rfl rfl rfl (fun w hx => gv_field (r := 0) rfl u131 rfl rfl z128 (by decide) (hF.t rfl)) fun a hF => ?_
       refine dg hF rfl rfl rfl rfl (fun w hx => gv_indexArr rfl u128 z127 (hF.t rfl) (hF.t rfl) (by omega)) fun a hF => ?_
       refine dg hF rfl rfl rfl rfl (fun w hx => gv_indexArr rfl u127 z126 (hF.t rfl) (hF.t rfl) (by omega)) fun a hF => ?_
       refine dg hF rfl rfl rfl rfl (fun w hx => gv_indexArr rfl u126 z5 (hF.t rfl) (hF.t rfl) (by omega)) fun a hF => ?_
       refine dg hF rfl rfl rfl rfl (fun w hx => gv_load rfl u5 rfl (hF.t rfl) (cell_ix (j := (r + 1) * 16 + c * 4 + i) (cell_of ((((hS.ext hx)).toExt (by simp)).keep hs) (at_map (by omega) 0)) (by omega))) fun a hF => ?_
       refine dg hF rfl rfl rfl rfl (fun w hx => gv_b_xor rfl (hF.t rfl) (hF.t rfl)) fun a hF => ?_
       refine dg hF rfl rfl rfl rfl (fun w hx => gv_indexArr rfl u127 z126 (hF.t rfl) (hF.t rfl) (by omega)) fun a hF => ?_
       refine dg hF rfl rfl rfl rfl (fun w hx => gv_indexArr rfl u126 z5 (hF.t rfl) (hF.t rfl) (by omega)) fun a hF => ?_
       refine dw_nil fun a w hA hx => ?_
       replace hF := hA _ hF
       replace hS := hS.ext hx
       clear hA hx
       refine run_stp (by kernel_rfl) rfl (stp_storeB (c * 4 + i) hF (wanted_none rfl) rfl rfl z5 (hF.t rfl) (by omega) (hF.t rfl) hS (k := 0) rfl (by rw [addl_len, mixS_len, subl_len, colT_len]; omega) fun w hS => ?_)
       refine run_done (by decide) ?_
       refine block_normal ?_
       refine tN (hKq40 _ _ ?_)
       refine wR ?_
       refine wg hF rfl rfl rfl (gv_nadd (n := 1) rfl (hF.t rfl) rfl (by omega)) fun a hF => ?_
       refine wg hF rfl rfl rfl (gv_move rfl (hF.t rfl)) fun a hF => ?_
       refine wN ?_
       refine then_normal ?_
       exact ⟨q - 1, by omega, i + 1, by omega, by omega, hF.sub ⟨rfl, rfl, rfl, rfl, rfl, rfl, rfl, rfl, rfl, trivial⟩, hS⟩
      ·
       refine wp_exit ?_
       refine then_exit ?_
       refine then_exit ?_
       refine block_exit ?_
       refine block_normal ?_
       refine tN (hKq21 _ _ ?_)
       refine wR ?_
       refine wg hF rfl rfl rfl (gv_nadd (n := 1) rfl (hF.t rfl) rfl (by omega)) fun a hF => ?_
       refine wg hF rfl rfl rfl (gv_move rfl (hF.t rfl)) fun a hF => ?_
       refine wN ?_
       refine then_normal ?_
       obtain rfl : i = 4 := by omega
       exact ⟨m - 1, by omega, c + 1, by omega, by omega, hF.sub ⟨rfl, rfl, rfl, rfl, rfl, rfl, rfl, trivial⟩, by rw [colT_succ]; exact hS⟩
   ·
    refine wp_exit ?_
    refine then_exit ?_
    refine then_exit ?_
    refine block_exit ?_
    refine tN (hKq17 _ _ ?_)
    obtain rfl : c = 4 := by omega
    refine wR ?_
    refine wg hF rfl rfl rfl (gv_loadAll rfl u127 rfl (z127.trans (congrArg some (by simp [colT_len]))) (hF.t rfl) hS (k := 0) rfl) fun a hF => ?_
    refine wpList_stp (stp_storeAll hF (wanted_none rfl) rfl rfl (z127.trans (congrArg some (by simp [colT_len]))) (hF.t rfl) (hF.t rfl) (one_B _) hS (k := 1) rfl (by simp [colT_len, blkR_len]) fun w hS => ?_)
    refine wN ?_
    refine block_normal ?_
    refine tN (hKq15 _ _ ?_)
    refine wR ?_
    refine wg hF rfl rfl rfl (gv_move rfl (hF.t rfl)) fun a hF => ?_
    refine wg hF rfl rfl rfl (gv_nadd (n := 1) rfl (hF.t rfl) rfl (by omega)) fun a hF => ?_
    refine wg hF rfl rfl rfl (gv_assign rfl (hF.t rfl)) fun a hF => ?_
    refine wN ?_
    refine then_normal ?_
    exact ⟨n - 1, by omega, r + 1, by omega, by omega, hF.sub ⟨rfl, rfl, rfl, rfl, rfl, trivial⟩, by rw [blkR_succ]; exact hS.drop rfl⟩
  ·
   refine wp_exit ?_
   refine then_exit ?_
   refine then_exit ?_
   refine block_exit ?_
   refine tN (hKq11 _ _ ?_)
   refine wK fun Kq42 hKq42 => ?_
   refine wK fun Kq43 hKq43 => ?_
   refine wR ?_
   refine wg hF rfl rfl rfl (gv_move rfl (ev_const _ _)) fun a hF => ?_
   refine wN ?_
   refine tN (hKq43 _ _ ?_)
   refine wp_block ?_
   obtain rfl : r = 10 := by omega
   refine wp_loop_n (fun n a w => ∃ i, i ≤ 16 ∧ n = 16 - i ∧ Fr 148 a [(0, .pointer (some ⟨s, 0, none⟩)), (3, .pointer (some ⟨bb, 0, none⟩)), (4, .pointer (some ⟨res, 0, none⟩)), (5, .pointer (some ⟨mm, 0, none⟩)), (134, vI i)] ∧ St w0 w [⟨true, some mm, blkB 127 (blkR K bl 10)⟩, ⟨true, some res, blkB 129 (List.replicate 16 0)⟩, ⟨true, some bb, blkB 129 (outl bl (blkR K bl 10) i)⟩]) 16 ⟨0, by omega, by omega, hF.sub ⟨rfl, rfl, rfl, rfl, rfl, trivial⟩, hS⟩ ?_
   rintro n a w ⟨i, hi16, hn, hF, hS⟩
   refine wK fun Kq44 hKq44 => ?_
   refine wR ?_
   refine wg hF rfl rfl rfl (gv_lss rfl (hF.t rfl) (ev_const _ _)) fun a hF => ?_
   refine wN ?_
   refine tN (hKq44 _ _ ?_)
   refine wK fun Kq45 hKq45 => ?_
   refine cond_dec (hF.t rfl) (fun hc135 => ?_) (fun hc135 => ?_)
   ·
    refine wp_skip ?_
    refine tN (hKq45 _ _ ?_)
    refine wK fun Kq46 hKq46 => ?_
    refine wp_block ?_
    refine wK fun Kq47 hKq47 => ?_
    refine wR ?_
    refine wg hF rfl rfl rfl (gv_move rfl (hF.t rfl)) fun a hF => ?_
    refine wg hF rfl rfl rfl (gv_assign rfl (hF.t rfl)) fun a hF => ?_
    refine wN ?_
    refine tN (hKq47 _ _ ?_)
    refine wR ?_
    refine wg hF rfl rfl rfl (gv_move rfl (hF.t rfl)) fun a hF => ?_
    refine wg hF rfl rfl rfl (gv_move rfl (hF.t rfl)) fun a hF => ?_
    refine wg hF rfl rfl rfl (gv_nquo (n := 4) rfl (hF.t rfl) rfl (by omega) (by omega)) fun a hF => ?_
    refine wg hF rfl rfl rfl (gv_move rfl (hF.t rfl)) fun a hF => ?_
    refine wg hF rfl rfl rfl (gv_nrem (n := 4) rfl (hF.t rfl) rfl (by omega)) fun a hF => ?_
    refine wg hF rfl rfl rfl (gv_indexArr rfl u127 z126 (hF.t rfl) (hF.t rfl) (by omega)) fun a hF => ?_
    refine wg hF rfl rfl rfl (gv_indexArr rfl u126 z5 (hF.t rfl) (hF.t rfl) (by omega)) fun a hF => ?_
    refine wg hF rfl rfl rfl (gv_load rfl u5 rfl (hF.t rfl) (cell_ix (hS.cellB (k := 0) rfl (i) (by rw [blkR_len]; omega)) (by omega))) fun a hF => ?_
    refine wg hF rfl rfl rfl (gv_indexArr rfl u129 z5 (hF.t rfl) (hF.t rfl) (by omega)) fun a hF => ?_
    refine wpList_stp (stp_storeB (i) hF (wanted_none rfl) rfl rfl z5 (hF.t rfl) (by omega) (hF.t rfl) hS (k := 2) rfl (by rw [outl_len, hb]; omega) fun w hS => ?_)
    refine wN ?_
    refine block_normal ?_
    refine tN (hKq46 _ _ ?_)
    refine wR ?_
    refine wg hF rfl rfl rfl (gv_nadd (n := 1) rfl (hF.t rfl) rfl (by omega)) fun a hF => ?_
    refine wg hF rfl rfl rfl (gv_move rfl (hF.t rfl)) fun a hF => ?_
    refine wN ?_
    refine then_normal ?_
    exact ⟨n - 1, by omega, i + 1, by omega, by omega, hF.sub ⟨rfl, rfl, rfl, rfl, rfl, trivial⟩, hS⟩
   ·
    refine wp_exit ?_
    refine then_exit ?_
    refine then_exit ?_
    refine block_exit ?_
    refine tN (hKq42 _ _ ?_)
    refine wK fun Kq48 hKq48 => ?_
    obtain rfl : i = 16 := by omega
    refine wR ?_
    refine wg hF rfl rfl rfl (gv_loadAll rfl u129 rfl (z129.trans (congrArg some (by simp [outl_len, hb]))) (hF.t rfl) hS (k := 2) rfl) fun a hF => ?_
    refine wpList_stp (stp_storeAll hF (wanted_none rfl) rfl rfl (z129.trans (congrArg some (by simp [outl_len, hb]))) (hF.t rfl) (hF.t rfl) (one_B _) hS (k := 1) rfl (by simp [outl_len, hb]) fun w hS => ?_)
    refine wN ?_
    refine tN (hKq48 _ _ ?_)
    refine wp_ret ?_
    refine retCell (fn := Tryd.f66) hF rfl u129 rfl (z129.trans (congrArg some (by simp [outl_len, hb]))) rfl hS (k := 1) rfl ⟨rfl, hS.toExt (by simp)⟩
theorem strm_left {K C : List UInt8} {lv : Value} (hK : K.length = 176) (hC : C.length = 16) : (K.map vB ++ (C.map vB ++ [lv]))[192]? = some lv := by
 rw [List.getElem?_append_right (by simp; omega), List.getElem?_append_right (by simp; omega)]
 simp [hK, hC]
theorem strm_setLeft {K C : List UInt8} {lv v : Value} (hK : K.length = 176) (hC : C.length = 16) : (K.map vB ++ (C.map vB ++ [lv])).set 192 v = K.map vB ++ (C.map vB ++ [v]) := by
 rw [List.set_append, if_neg (by simp; omega), List.set_append, if_neg (by simp; omega)]
 simp [hK, hC]
theorem strm_count {K C : List UInt8} {lv : Value} (hK : K.length = 176) (hC : C.length = 16) : ((K.map vB ++ (C.map vB ++ [lv])).drop 176).take (C.map vB).length = C.map vB := by
 rw [List.drop_left' (by simp; omega), List.take_left]
theorem strm_len {K C : List UInt8} {lv : Value} (hK : K.length = 176) (hC : C.length = 16) : (K.map vB ++ (C.map vB ++ [lv])).length = 193 := by simp; omega
def incl (C : List UInt8) : Nat → List UInt8
 | 0 => C
 | j + 1 => if C.getD j 0 + 1 ≠ 0 then C.set j (C.getD j 0 + 1) else incl (C.set j (C.getD j 0 + 1)) j
theorem incl_len (C : List UInt8) (j : Nat) : (incl C j).length = C.length := by
 induction j generalizing C with
 | zero => rfl
 | succ j ih => unfold incl; split <;> simp [ih]
def incC (C : List UInt8) : List UInt8 := incl C 16
theorem incC_len (C : List UInt8) : (incC C).length = C.length := incl_len C 16
def kstep (K : List UInt8) (s : List UInt8 × List UInt8) : List UInt8 × List UInt8 := if s.2.length = 0 then (incC s.1, blockF K s.1) else s
def kst (K : List UInt8) (s : List UInt8 × List UInt8) : Nat → List UInt8 × List UInt8
 | 0 => s
 | n + 1 => ((kstep K (kst K s n)).1, (kstep K (kst K s n)).2.drop 1)
theorem kst_succ (K : List UInt8) (s : List UInt8 × List UInt8) (n : Nat) : kst K s (n + 1) = ((kstep K (kst K s n)).1, (kstep K (kst K s n)).2.drop 1) := rfl
theorem kstep_len {K : List UInt8} {s : List UInt8 × List UInt8} (h : s.1.length = 16) : (kstep K s).1.length = 16 := by
 unfold kstep; split
 ·
  rw [incC_len, h]
 ·
  exact h
theorem kst_len {K : List UInt8} {s : List UInt8 × List UInt8} (h : s.1.length = 16) (n : Nat) : (kst K s n).1.length = 16 := by
 induction n with
 | zero => exact h
 | succ n ih => exact kstep_len ih
theorem kstep_pos {K : List UInt8} {s : List UInt8 × List UInt8} (h : s.1.length = 16) : 0 < (kstep K s).2.length := by
 unfold kstep; split
 ·
  simp only; rw [blockF_len h]; omega
 ·
  omega
def kby (K : List UInt8) (s : List UInt8 × List UInt8) (n : Nat) : UInt8 := (kstep K (kst K s n)).2.getD 0 0
def outT (K : List UInt8) (s : List UInt8 × List UInt8) (bl : List UInt8) : Nat → List UInt8
 | 0 => bl
 | k + 1 => (outT K s bl k).set k ((outT K s bl k).getD k 0 ^^^ kby K s k)
theorem outT_succ (K : List UInt8) (s : List UInt8 × List UInt8) (bl : List UInt8) (k : Nat) : outT K s bl (k + 1) = (outT K s bl k).set k ((outT K s bl k).getD k 0 ^^^ (kstep K (kst K s k)).2.getD 0 0) := rfl
theorem outT_len (K : List UInt8) (s : List UInt8 × List UInt8) (bl : List UInt8) (k : Nat) : (outT K s bl k).length = bl.length := by
 induction k with
 | zero => rfl
 | succ k ih => rw [outT, List.length_set, ih]
def ctr (j : Nat) : Value := .int .i64 ((j : Int) - 1)
theorem ctr_succ (j : Nat) : ctr (j + 1) = vI j := by
 unfold ctr vI
 rw [show (((j + 1 : Nat) : Int) - 1) = (j : Int) by omega]
theorem set_getD {l : List UInt8} {j : Nat} (h : j < l.length) (x : UInt8) : (l.set j x).getD j 0 = x := by
 rw [List.getD_eq_getElem?_getD, List.getElem?_set_self h]; rfl
theorem ne0 {x : UInt8} (h : (x.toNat : Int) ≠ 0) : x ≠ 0 := fun e => h (by rw [e]; rfl)
theorem eq0 {x : UInt8} (h : ¬ (x.toNat : Int) ≠ 0) : x = 0 := UInt8.toNat_inj.1 (by have : (x.toNat : Int) = 0 := Classical.not_not.1 h; rw [Int.natCast_eq_zero.1 this]; rfl)
theorem len0 {n : Nat} (h : (n : Int) = 0) : n = 0 := by omega
theorem move_kb {w00 w : World} {e1 e2 e3 k : Ent} {T : List Ent} (h : St w00 w (k :: e1 :: e2 :: e3 :: T)) (hn : e3.nw = true) : St w00 w (e1 :: e2 :: k :: T) := by
 have h1 := (h.move (k := 3) rfl).drop hn
 simp only [List.eraseIdx_cons_succ, List.eraseIdx_cons_zero] at h1
 have h2 := h1.move (k := 2) rfl
 simp only [List.eraseIdx_cons_succ, List.eraseIdx_cons_zero] at h2
 have h3 := h2.move (k := 2) rfl
 simp only [List.eraseIdx_cons_succ, List.eraseIdx_cons_zero] at h3
 exact h3
theorem nlen0 {n : Nat} (h : ¬ (n : Int) = 0) : ¬ n = 0 := by omega
set_option maxHeartbeats 2000000 in
theorem turn_ok {s : Nat} {K C L bl B : List UInt8} {lv bv : Value} {okb : Option Nat} {w00 w : World} {T : List Ent} (hT : ∀ e ∈ T, e.nw = true) (hS : St w00 w (⟨true, some s, strm K C lv⟩ :: ⟨true, okb, blkB 129 B⟩ :: T)) (hL : SRd w00 [⟨true, okb, blkB 129 B⟩] lv (L.map vB)) (hb : SRd w00 T bv (bl.map vB)) (hK : K.length = 176) (hC : C.length = 16) (hn : bl.length ≤ 1099511627776) :
  Calls Tryd.prog 46 #[.pointer (some ⟨s, 0, none⟩), bv] w fun e w' => ∃ ob pad lv1 okb1 B1, e = .returned (ownV ob bl.length (bl.length + pad.length)) ∧ (ob = none → bl = [] ∧ pad = []) ∧ bl.length + pad.length ≤ 9223372036854775807 ∧
   St w00 w' (⟨true, ob, blk 5 ((outT K (C, L) bl bl.length).map vB ++ pad)⟩ :: ⟨true, some s, strm K (kst K (C, L) bl.length).1 lv1⟩ :: ⟨true, okb1, blkB 129 B1⟩ :: T) ∧ SRd w00 [⟨true, okb1, blkB 129 B1⟩] lv1 ((kst K (C, L) bl.length).2.map vB) := by
 have hR := hb w _ hS (nw_cons rfl (nw_cons rfl hT)) (fun e he => by simp [he])
 refine calls_start 77 Tryd.func46 rfl Tryd.ntmps46 rfl fun a hF => ?_
 refine wK fun Kq1 hKq1 => ?_
 refine wR ?_
 refine wg hF rfl rfl rfl (gv_assign rfl (ev_const _ _)) fun a hF => ?_
 refine wN ?_
 refine tN (hKq1 _ _ ?_)
 refine wK fun Kq2 hKq2 => ?_
 refine wK fun Kq3 hKq3 => ?_
 refine wR ?_
 refine wg hF rfl rfl rfl (gv_move rfl (hF.t rfl)) fun a hF => ?_
 refine wg hF rfl rfl rfl (gv_eqlNil rfl u33 (hF.t rfl) (ev_const _ _)) fun a hF => ?_
 refine wN ?_
 refine tN (hKq3 _ _ ?_)
 refine wp_cond_false (hF.t rfl) ?_
 refine wp_skip ?_
 refine tN (hKq2 _ _ ?_)
 refine wK fun Kq4 hKq4 => ?_
 refine wR ?_
 refine wg hF rfl rfl rfl (gv_move rfl (hF.t rfl)) fun a hF => ?_
 replace hS := hS.addNil (blk 5 ([] ++ []))
 refine wpList_stp (stp_append (ob := none) (xs := []) (pad := []) (k := 0) hF (wanted_none rfl) rfl rfl rfl u22 Tryd.ty5 rfl rfl (hF.t rfl) hS rfl (fun _ => ⟨rfl, rfl⟩) (by simp) hR (one_B _) (by simp; omega) (by simp; omega) fun ob pad a w hF hob hcap hS => ?_)
 simp only [List.length_nil, Nat.zero_add, List.nil_append, List.length_map, List.map_eq_nil_iff] at hF hS hob hcap
 refine wg hF rfl rfl rfl (gv_assign rfl (hF.t rfl)) fun a hF => ?_
 refine wN ?_
 refine tN (hKq4 _ _ ?_)
 refine wK fun Kq5 hKq5 => ?_
 refine wK fun Kq6 hKq6 => ?_
 refine wR ?_
 refine wg hF rfl rfl rfl (gv_move rfl (hF.t rfl)) fun a hF => ?_
 refine wg hF rfl rfl rfl (gv_lenOwn rfl u22 (hF.t rfl) (fun h => by rw [(hob h).1]; rfl)) fun a hF => ?_
 refine wg hF rfl rfl rfl (gv_move rfl (ev_const _ _)) fun a hF => ?_
 refine wN ?_
 refine tN (hKq6 _ _ ?_)
 refine wp_block ?_
 refine wp_loop_n (fun n a w => ∃ k lv1 okb1 B1, k ≤ bl.length ∧ n = bl.length - k ∧ Fr 77 a [(0, .pointer (some ⟨s, 0, none⟩)), (5, ownV ob bl.length (bl.length + pad.length)), (14, vI bl.length), (15, vI k)] ∧ St w00 w (⟨true, ob, blk 5 ((outT K (C, L) bl k).map vB ++ pad)⟩ :: ⟨true, some s, strm K ((kst K (C, L) k).1) (lv1)⟩ :: ⟨true, okb1, blkB 129 B1⟩ :: T) ∧ SRd w00 [⟨true, okb1, blkB 129 B1⟩] lv1 ((kst K (C, L) k).2.map vB)) bl.length ⟨0, lv, okb, B, by omega, by omega, hF.sub ⟨rfl, rfl, rfl, rfl, trivial⟩, hS, hL⟩ ?_
 rintro n a w ⟨k, lv1, okb1, B1, hk, hnk, hF, hS, hL1⟩
 have hR1 := hL1 w _ hS (nw_cons rfl (nw_cons rfl (nw_cons rfl hT))) (by simp)
 have hCk : (kst K (C, L) k).1.length = 16 := kst_len hC k
 obtain ⟨A1, c1, rfl, hc1, hc2, hcell1⟩ := hR1.isB
 refine wK fun Kq7 hKq7 => ?_
 refine wR ?_
 refine wg hF rfl rfl rfl (gv_lss rfl (hF.t rfl) (hF.t rfl)) fun a hF => ?_
 refine wN ?_
 refine tN (hKq7 _ _ ?_)
 refine wK fun Kq8 hKq8 => ?_
 refine cond_dec (hF.t rfl) (fun h16 => ?_) (fun h16 => ?_)
 ·
  obtain ⟨ob, rfl⟩ := own_some hob (by omega)
  refine wp_skip ?_
  refine tN (hKq8 _ _ ?_)
  refine wK fun Kq9 hKq9 => ?_
  refine wp_block ?_
  refine wK fun Kq10 hKq10 => ?_
  refine wR ?_
  refine wg hF rfl rfl rfl (gv_move rfl (hF.t rfl)) fun a hF => ?_
  refine wg hF rfl rfl rfl (gv_assign rfl (hF.t rfl)) fun a hF => ?_
  refine wN ?_
  refine tN (hKq10 _ _ ?_)
  refine wp_cut (fun a w => ∃ lv1 okb1 B1, Fr 77 a [(0, .pointer (some ⟨s, 0, none⟩)), (5, ownV (some ob) bl.length (bl.length + pad.length)), (14, vI bl.length), (15, vI k), (6, vI k)] ∧ St w00 w (⟨true, some ob, blk 5 ((outT K (C, L) bl k).map vB ++ pad)⟩ :: ⟨true, some s, strm K ((kstep K (kst K (C, L) k)).1) (lv1)⟩ :: ⟨true, okb1, blkB 129 B1⟩ :: T) ∧ SRd w00 [⟨true, okb1, blkB 129 B1⟩] lv1 ((kstep K (kst K (C, L) k)).2.map vB)) ?_ ?_
  ·
   refine wK fun Kq11 hKq11 => ?_
   refine wR ?_
   refine wg hF rfl rfl rfl (gv_move rfl (hF.t rfl)) fun a hF => ?_
   refine wg hF rfl rfl rfl (gv_nilCheck rfl (hF.t rfl)) fun a hF => ?_
   refine wg hF rfl rfl rfl (gv_field (r := 192) rfl u131 rfl rfl z22 (by decide) (hF.t rfl)) fun a hF => ?_
   refine wg hF rfl rfl rfl (gv_load rfl u22 rfl (hF.t rfl) (cell_ix (j := 192) (hS.cell (k := 1) rfl (strm_left hK hCk)) (by omega))) fun a hF => ?_
   refine wg hF rfl rfl rfl (gv_len rfl u22 (hF.t rfl)) fun a hF => ?_
   refine wg hF rfl rfl rfl (gv_eql rfl (hF.t rfl) (ev_const _ _)) fun a hF => ?_
   refine wN ?_
   refine tN (hKq11 _ _ ?_)
   refine cond_dec (hF.t rfl) (fun h23 => ?_) (fun h23 => ?_)
   ·
    refine wK fun Kq12 hKq12 => ?_
    refine wR ?_
    refine wg hF rfl rfl rfl (gv_move rfl (hF.t rfl)) fun a hF => ?_
    refine wg hF rfl rfl rfl (gv_move rfl (hF.t rfl)) fun a hF => ?_
    refine wg hF rfl rfl rfl (gv_nilCheck rfl (hF.t rfl)) fun a hF => ?_
    refine wg hF rfl rfl rfl (gv_field (r := 176) rfl u131 rfl rfl z129 (by decide) (hF.t rfl)) fun a hF => ?_
    refine wg hF rfl rfl rfl (gv_loadPartAt (j := 176) (vs := ((kst K (C, L) k).1.map vB)) rfl u129 rfl (z129.trans (congrArg some (by rw [List.length_map, hCk]))) (hF.t rfl) (by omega) hS (k := 1) rfl (strm_count hK hCk)) fun a hF => ?_
    refine wpList_stp (stp_call hF (wanted_none rfl) rfl rfl Tryd.ok66 rfl (Evs.cons (hF.t rfl) (Evs.cons (hF.t rfl) Evs.nil)) (block_ok (hS.has _ (List.mem_of_getElem? (i := 1) rfl) _ rfl) hK hCk) fun e w h => ?_)
    obtain ⟨rfl, hx⟩ := h
    refine ⟨_, rfl, fun a hF => ?_⟩
    replace hS := hS.ext hx
    clear hx
    refine wpList_stp (stp_alloc hF (wanted_none rfl) rfl rfl rfl Tryd.zv129 rfl hS fun kb a w hF hS => ?_)
    refine wpList_stp (stp_storeAll hF (wanted_none rfl) rfl rfl (z129.trans (congrArg some (by rw [List.length_map, blockF_len hCk]))) (hF.t rfl) (hF.t rfl) (one_B _) hS (k := 0) rfl (by rw [List.length_map, blockF_len hCk]; rfl) fun w hS => ?_)
    refine wN ?_
    refine tN (hKq12 _ _ ?_)
    refine wK fun Kq13 hKq13 => ?_
    refine wR ?_
    refine wg hF rfl rfl rfl (gv_move rfl (hF.t rfl)) fun a hF => ?_
    refine wg hF rfl rfl rfl (gv_sliceArr rfl u129 z5 (hF.t rfl)) fun a hF => ?_
    refine wg hF rfl rfl rfl (gv_nilCheck rfl (hF.t rfl)) fun a hF => ?_
    refine wg hF rfl rfl rfl (gv_field (r := 192) rfl u131 rfl rfl z22 (by decide) (hF.t rfl)) fun a hF => ?_
    refine wpList_stp (stp_storeAt (192) hF (wanted_none rfl) rfl rfl z22 (hF.t rfl) (by omega) (hF.t rfl) rfl hS (k := 2) rfl (by rw [strm_len hK hCk]; omega) fun w hS => ?_)
    rw [strm_setLeft hK hCk] at hS
    refine wN ?_
    refine tN (hKq13 _ _ ?_)
    refine wK fun Kq14 hKq14 => ?_
    refine wR ?_
    refine wg hF rfl rfl rfl (gv_assign rfl (ev_const _ _)) fun a hF => ?_
    refine wN ?_
    refine tN (hKq14 _ _ ?_)
    refine wp_block ?_
    refine wp_loop_n (fun q a w => ∃ j D, j ≤ 16 ∧ q = j ∧ D.length = 16 ∧ incl D j = incC (kst K (C, L) k).1 ∧ Fr 77 a [(0, .pointer (some ⟨s, 0, none⟩)), (5, ownV (some ob) bl.length (bl.length + pad.length)), (6, vI k), (14, vI bl.length), (15, vI k), (8, ctr j)] ∧ St w00 w (⟨true, some kb, blkB 129 (blockF K (kst K (C, L) k).1)⟩ :: ⟨true, some ob, blk 5 ((outT K (C, L) bl k).map vB ++ pad)⟩ :: ⟨true, some s, strm K D (.slice (some ⟨kb, 0, none⟩) 16 16)⟩ :: ⟨true, okb1, blkB 129 B1⟩ :: T)) 16 ⟨16, (kst K (C, L) k).1, by omega, rfl, hCk, rfl, hF.sub ⟨rfl, rfl, rfl, rfl, rfl, rfl, trivial⟩, hS⟩ ?_
    rintro q a w ⟨j, D, hj, hq, hCj, hinc, hF, hS⟩
    refine wK fun Kq15 hKq15 => ?_
    refine wK fun Kq16 hKq16 => ?_
    refine wR ?_
    refine wg hF rfl rfl rfl (gv_move rfl (hF.t rfl)) fun a hF => ?_
    refine wg hF rfl rfl rfl (gv_geq rfl (hF.t rfl) (ev_const _ _)) fun a hF => ?_
    refine wN ?_
    refine tN (hKq16 _ _ ?_)
    refine cond_dec (hF.t rfl) (fun h35 => ?_) (fun h35 => ?_)
    ·
     obtain ⟨j, rfl⟩ : ∃ i, j = i + 1 := ⟨j - 1, by omega⟩
     replace hF : Fr 77 a [(0, .pointer (some ⟨s, 0, none⟩)), (5, ownV (some ob) bl.length (bl.length + pad.length)), (6, vI k), (14, vI bl.length), (15, vI k), (8, vI j)] := hF.sub ⟨rfl, rfl, rfl, rfl, rfl, congrArg some (ctr_succ j), trivial⟩
     refine wp_skip ?_
     refine tN (hKq15 _ _ ?_)
     refine wK fun Kq17 hKq17 => ?_
     refine wp_block ?_
     refine wK fun Kq18 hKq18 => ?_
     refine Fw.wp_region_draw (by kernel_rfl) fun w hx => ?_
     replace hS := hS.ext hx
     clear hx
     refine run_head0 (n := 10) _ hF (by kernel_rfl) rfl ?_
     refine dg hF rfl rfl rfl rfl (fun w hx => gv_move rfl (hF.t rfl)) fun a hF => ?_
     refine dg hF rfl rfl rfl rfl (fun w hx => gv_move rfl (hF.t rfl)) fun a hF => ?_
     refine dg hF rfl rfl rfl rfl (fun w hx => gv_nilCheck rfl (hF.t rfl)) fun a hF => ?_
     refine dg hF rfl rfl rfl rfl (fun w hx => gv_field (r := 176) rfl u131 rfl rfl z129 (by decide) (hF.t rfl)) fun a hF => ?_
     refine dg hF rfl rfl rfl rfl (fun w hx => gv_indexArr rfl u129 z5 (hF.t rfl) (hF.t rfl) (by omega)) fun a hF => ?_
     refine dg hF rfl rfl rfl rfl (fun w hx => gv_load rfl u5 rfl (hF.t rfl) (cell_ix (j := 176 + j) ((hS.ext hx).cell (k := 2) rfl (at_map2 (by rw [List.length_map, hK]) (by omega) 0)) (by omega))) fun a hF => ?_
     refine dg hF rfl rfl rfl rfl (fun w hx => gv_b_add (n := 1) rfl (hF.t rfl) rfl) fun a hF => ?_
     refine dg hF rfl rfl rfl rfl (fun w hx => gv_nilCheck rfl (hF.t rfl)) fun a hF => ?_
     refine dg hF rfl rfl rfl rfl (fun w hx => gv_field (r := 176) rfl u131 rfl rfl z129 (by decide) (hF.t rfl)) fun a hF => ?_
     refine dg hF rfl rfl rfl rfl (fun w hx => gv_indexArr rfl u129 z5 (hF.t rfl) (hF.t rfl) (by omega)) fun a hF => ?_
     refine dw_nil fun a w hA hx => ?_
     replace hF := hA _ hF
     replace hS := hS.ext hx
     clear hA hx
     refine run_stp (by kernel_rfl) rfl (stp_storeAt (176 + j) hF (wanted_none rfl) rfl rfl z5 (hF.t rfl) (by omega) (hF.t rfl) rfl hS (k := 2) rfl (by rw [strm_len hK hCj]; omega) fun w hS => ?_)
     simp only [List.set_cons_succ, List.set_cons_zero] at hS
     rw [set_map2 (by rw [List.length_map, hK]) (by omega)] at hS
     refine run_done (by decide) ?_
     refine tN (hKq18 _ _ ?_)
     refine wK fun Kq19 hKq19 => ?_
     refine wR ?_
     refine wg hF rfl rfl rfl (gv_move rfl (hF.t rfl)) fun a hF => ?_
     refine wg hF rfl rfl rfl (gv_move rfl (hF.t rfl)) fun a hF => ?_
     refine wg hF rfl rfl rfl (gv_nilCheck rfl (hF.t rfl)) fun a hF => ?_
     refine wg hF rfl rfl rfl (gv_field (r := 176) rfl u131 rfl rfl z129 (by decide) (hF.t rfl)) fun a hF => ?_
     refine wg hF rfl rfl rfl (gv_indexArr rfl u129 z5 (hF.t rfl) (hF.t rfl) (by omega)) fun a hF => ?_
     refine wg hF rfl rfl rfl (gv_load rfl u5 rfl (hF.t rfl) (cell_ix (j := 176 + j) (hS.cell (k := 2) rfl (at_map2 (by rw [List.length_map, hK]) (by rw [List.length_set]; omega) 0)) (by omega))) fun a hF => ?_
     refine wg hF rfl rfl rfl (gv_neq rfl (hF.t rfl) (ev_const _ _)) fun a hF => ?_
     refine wN ?_
     refine tN (hKq19 _ _ ?_)
     refine cond_dec (hF.t rfl) (fun h54 => ?_) (fun h54 => ?_)
     ·
      refine wp_exit ?_
      refine block_exit_ne (by decide) ?_
      refine then_exit ?_
      refine then_exit ?_
      refine block_exit ?_
      refine then_normal ?_
      rw [set_getD (by omega)] at h54
      have hks : kstep K (kst K (C, L) k) = (D.set j (D.getD j 0 + 1), blockF K (kst K (C, L) k).1) := by rw [kstep, if_pos (len0 h23), ← hinc, incl, if_pos (ne0 h54)]
      refine ⟨_, some kb, _, hF.sub ⟨rfl, rfl, rfl, rfl, rfl, trivial⟩, by rw [hks]; exact move_kb hS rfl, by rw [hks]; exact SRd.arr List.mem_cons_self (blockF_len hCk) (by omega)⟩
     ·
      refine wp_skip ?_
      refine block_normal ?_
      refine tN (hKq17 _ _ ?_)
      refine wR ?_
      refine wg hF rfl rfl rfl (gv_move rfl (hF.t rfl)) fun a hF => ?_
      refine wg hF rfl rfl rfl (gv_sub rfl (hF.t rfl) (ev_const _ _) (by omega) (by omega)) fun a hF => ?_
      refine wg hF rfl rfl rfl (gv_assign rfl (hF.t rfl)) fun a hF => ?_
      refine wN ?_
      refine then_normal ?_
      rw [set_getD (by omega)] at h54
      have hz : D.getD j 0 + 1 = 0 := eq0 h54
      exact ⟨q - 1, by omega, j, D.set j (D.getD j 0 + 1), by omega, by omega, by rw [List.length_set, hCj], by rw [← hinc, incl, if_neg (fun h => h hz)], hF.sub ⟨rfl, rfl, rfl, rfl, rfl, rfl, trivial⟩, hS⟩
    ·
     refine wp_exit ?_
     refine then_exit ?_
     refine then_exit ?_
     refine block_exit ?_
     refine then_normal ?_
     obtain rfl : j = 0 := by omega
     have hks : kstep K (kst K (C, L) k) = (D, blockF K (kst K (C, L) k).1) := by rw [kstep, if_pos (len0 h23), ← hinc]; rfl
     refine ⟨_, some kb, _, hF.sub ⟨rfl, rfl, rfl, rfl, rfl, trivial⟩, by rw [hks]; exact move_kb hS rfl, by rw [hks]; exact SRd.arr List.mem_cons_self (blockF_len hCk) (by omega)⟩
   ·
    refine wp_skip ?_
    refine then_normal ?_
    have hks : kstep K (kst K (C, L) k) = kst K (C, L) k := by rw [kstep, if_neg (nlen0 h23)]
    exact ⟨_, okb1, B1, hF.sub ⟨rfl, rfl, rfl, rfl, rfl, trivial⟩, by rw [hks]; exact hS, by rw [hks]; exact hL1⟩
  ·
   rintro a w ⟨lv1, okb1, B1, hF, hS, hL1⟩
   have hCs : (kstep K (kst K (C, L) k)).1.length = 16 := kstep_len hCk
   have hpos : 0 < (kstep K (kst K (C, L) k)).2.length := kstep_pos hCk
   have hR1 := hL1 w _ hS (nw_cons rfl (nw_cons rfl (nw_cons rfl hT))) (by simp)
   clear hcell1 hc1 hc2
   obtain ⟨A1, c1, rfl, hc1, hc2, hcell1⟩ := hR1.isB
   obtain ⟨b1, o1, rfl, hcell1⟩ := hcell1 hpos
   refine wK fun Kq20 hKq20 => ?_
   refine Fw.wp_region_draw (by kernel_rfl) fun w hx => ?_
   replace hS := hS.ext hx
   replace hR1 := hR1.ext hx
   clear hx
   refine run_head0 (n := 12) _ hF (by kernel_rfl) rfl ?_
   refine dg hF rfl rfl rfl rfl (fun w hx => gv_move rfl (hF.t rfl)) fun a hF => ?_
   refine dg hF rfl rfl rfl rfl (fun w hx => gv_move rfl (hF.t rfl)) fun a hF => ?_
   refine dg hF rfl rfl rfl rfl (fun w hx => gv_indexSl rfl u22 z5 (hF.t rfl) (hF.t rfl) (by omega)) fun a hF => ?_
   refine dg hF rfl rfl rfl rfl (fun w hx => gv_load rfl u5 rfl (hF.t rfl) (cell_ix (j := k) ((hS.ext hx).cell (k := 0) rfl (at_map (by rw [outT_len]; omega) 0)) (by omega))) fun a hF => ?_
   refine dg hF rfl rfl rfl rfl (fun w hx => gv_move rfl (hF.t rfl)) fun a hF => ?_
   refine dg hF rfl rfl rfl rfl (fun w hx => gv_nilCheck rfl (hF.t rfl)) fun a hF => ?_
   refine dg hF rfl rfl rfl rfl (fun w hx => gv_field (r := 192) rfl u131 rfl rfl z22 (by decide) (hF.t rfl)) fun a hF => ?_
   refine dg hF rfl rfl rfl rfl (fun w hx => gv_load rfl u22 rfl (hF.t rfl) (cell_ix (j := 192) ((hS.ext hx).cell (k := 1) rfl (strm_left hK hCs)) (by omega))) fun a hF => ?_
   refine dg hF rfl rfl rfl rfl (fun w hx => gv_indexSl (q := 0) rfl u22 z5 (hF.t rfl) rfl (by omega)) fun a hF => ?_
   refine dg hF rfl rfl rfl rfl (fun w hx => gv_load rfl u5 rfl (hF.t rfl) (cell_ix ((hR1.ext hx).cellB 0 hpos) (by omega))) fun a hF => ?_
   refine dg hF rfl rfl rfl rfl (fun w hx => gv_b_xor rfl (hF.t rfl) (hF.t rfl)) fun a hF => ?_
   refine dg hF rfl rfl rfl rfl (fun w hx => gv_indexSl rfl u22 z5 (hF.t rfl) (hF.t rfl) (by omega)) fun a hF => ?_
   refine dw_nil fun a w hA hx => ?_
   replace hF := hA _ hF
   replace hS := hS.ext hx
   clear hA hx
   refine run_stp (by kernel_rfl) rfl (stp_storeAt (k) hF (wanted_none rfl) rfl rfl z5 (hF.t rfl) (by omega) (hF.t rfl) rfl hS (k := 0) rfl (by simp [outT_len]; omega) fun w hS => ?_)
   simp only [List.set_cons_succ, List.set_cons_zero] at hS
   rw [set_map (by rw [outT_len]; omega)] at hS
   refine run_done (by decide) ?_
   refine tN (hKq20 _ _ ?_)
   refine wR ?_
   refine wg hF rfl rfl rfl (gv_move rfl (hF.t rfl)) fun a hF => ?_
   refine wg hF rfl rfl rfl (gv_move rfl (hF.t rfl)) fun a hF => ?_
   refine wg hF rfl rfl rfl (gv_nilCheck rfl (hF.t rfl)) fun a hF => ?_
   refine wg hF rfl rfl rfl (gv_field (r := 192) rfl u131 rfl rfl z22 (by decide) (hF.t rfl)) fun a hF => ?_
   refine wg hF rfl rfl rfl (gv_load rfl u22 rfl (hF.t rfl) (cell_ix (j := 192) (hS.cell (k := 1) rfl (strm_left hK hCs)) (by omega))) fun a hF => ?_
   refine wg hF rfl rfl rfl (gv_sliceLo (lo := 1) rfl u22 z5 (hF.t rfl) rfl (by omega)) fun a hF => ?_
   refine wg hF rfl rfl rfl (gv_nilCheck rfl (hF.t rfl)) fun a hF => ?_
   refine wg hF rfl rfl rfl (gv_field (r := 192) rfl u131 rfl rfl z22 (by decide) (hF.t rfl)) fun a hF => ?_
   refine wpList_stp (stp_storeAt (192) hF (wanted_none rfl) rfl rfl z22 (hF.t rfl) (by omega) (hF.t rfl) rfl hS (k := 1) rfl (by rw [strm_len hK hCs]; omega) fun w hS => ?_)
   simp only [List.set_cons_succ, List.set_cons_zero] at hS
   rw [strm_setLeft hK hCs] at hS
   refine wN ?_
   refine block_normal ?_
   refine tN (hKq9 _ _ ?_)
   refine wR ?_
   refine wg hF rfl rfl rfl (gv_nadd (n := 1) rfl (hF.t rfl) rfl (by omega)) fun a hF => ?_
   refine wg hF rfl rfl rfl (gv_move rfl (hF.t rfl)) fun a hF => ?_
   refine wN ?_
   refine then_normal ?_
   exact ⟨n - 1, by omega, k + 1, _, okb1, B1, by omega, by omega, hF.sub ⟨rfl, rfl, rfl, rfl, trivial⟩, by rw [outT_succ, kst_succ]; exact hS, by rw [kst_succ, List.map_drop]; exact hL1.cutLo (by omega)⟩
 ·
  refine wp_exit ?_
  refine then_exit ?_
  refine then_exit ?_
  refine block_exit ?_
  refine tN (hKq5 _ _ ?_)
  refine wK fun Kq21 hKq21 => ?_
  obtain rfl : k = bl.length := by omega
  refine wR ?_
  refine wg hF rfl rfl rfl (gv_move rfl (hF.t rfl)) fun a hF => ?_
  refine wg hF rfl rfl rfl (gv_assign rfl (hF.t rfl)) fun a hF => ?_
  refine wN ?_
  refine tN (hKq21 _ _ ?_)
  refine wp_ret ?_
  refine ret1 (fn := Tryd.f46) (t := 4) hF rfl rfl ?_
  exact ⟨ob, pad, _, okb1, B1, rfl, hob, hcap, hS, hL1⟩
end Go.Proofs.YtfhalnobaeogkaaDoor
set_option linter.unusedVariables false
set_option linter.unusedSimpArgs false
namespace Go.Proofs.YtfhalnobaeogkaaDoor
open Go Go.RowKit Go.Fw
theorem Tryd.ty22 : Ty Tryd.prog 22 (Value.slice none 0 0) 1 24 := ⟨by kernel_rfl⟩
theorem Tryd.ok67 : CallOk Tryd.prog 67 := ⟨_, Tryd.func67, by kernel_rfl, by kernel_rfl⟩
def padK (kl : List UInt8) : List UInt8 := kl ++ (List.replicate 64 (0 : UInt8)).drop kl.length
theorem padK_len {kl : List UInt8} (h : kl.length ≤ 64) : (padK kl).length = 64 := by simp [padK]; omega
def xo (c : UInt8) (l : List UInt8) : Nat → List UInt8
 | 0 => l
 | i + 1 => (xo c l i).set i ((xo c l i).getD i 0 ^^^ c)
theorem xo_len (c : UInt8) (l : List UInt8) : ∀ i, (xo c l i).length = l.length
 | 0 => rfl
 | i + 1 => by rw [xo, List.length_set, xo_len c l i]
def catM (l0 l1 : List UInt8) : Nat → List UInt8
 | 0 => []
 | 1 => l0
 | _ => l0 ++ l1
theorem catM_le (l0 l1 : List UInt8) (i : Nat) : (catM l0 l1 i).length ≤ l0.length + l1.length := by
 match i with
 | 0 => simp [catM]
 | 1 => simp [catM]
 | _ + 2 => simp [catM]
def inM (kl l0 l1 : List UInt8) (i : Nat) : List UInt8 := xo 54 (padK kl) 64 ++ catM l0 l1 i
theorem inM_zero (kl l0 l1 : List UInt8) : xo 54 (padK kl) 64 = inM kl l0 l1 0 := by simp [inM, catM]
theorem inM_succ {kl l0 l1 : List UInt8} {i : Nat} (h : i < 2) : inM kl l0 l1 i ++ (if i = 0 then l0 else l1) = inM kl l0 l1 (i + 1) := by
 match i, h with
 | 0, _ => simp [inM, catM]
 | 1, _ => simp [inM, catM]
theorem inM_len {kl l0 l1 : List UInt8} (h : kl.length ≤ 64) (i : Nat) : (inM kl l0 l1 i).length ≤ 64 + (l0.length + l1.length) := by
 have := catM_le l0 l1 i
 rw [inM, List.length_append, xo_len, padK_len h]; omega
def macF (kl l0 l1 : List UInt8) : List UInt8 := sum256 (xo 92 (padK kl) 64 ++ sum256 (inM kl l0 l1 2))
theorem macF_len (kl l0 l1 : List UInt8) : (macF kl l0 l1).length = 32 := sum256_len _
theorem pair_get {p0 p1 : Value} {i : Nat} (h : i < 2) : [p0, p1][i]? = some (if i = 0 then p0 else p1) := by
 match i, h with
 | 0, _ => rfl
 | 1, _ => rfl
set_option maxHeartbeats 1000000 in
theorem mac_ok {kv pv p0 p1 : Value} {kl l0 l1 : List UInt8} {w0 : World} (hG : Glob w0) (hk : Rd w0 kv (kl.map vB)) (hk0 : 0 < kl.length) (hk1 : kl.length ≤ 64) (hp : Rd w0 pv [p0, p1]) (h0 : Rd w0 p0 (l0.map vB)) (h1 : Rd w0 p1 (l1.map vB)) (hn : l0.length + l1.length ≤ 137438953472) :
  Calls Tryd.prog 67 #[kv, pv] w0 fun e w' => e = .returned (.agg ((macF kl l0 l1).map vB).toArray) ∧ Ext w0 w' := by
 obtain ⟨Ak, ck, hkv, hkc1, hkc2, hkc⟩ := hk.isB
 subst hkv
 obtain ⟨bk, ok, rfl, _⟩ := hkc hk0
 obtain ⟨Ap, cp, hpv, hpc1, hpc2, hpc⟩ := hp.is
 subst hpv
 obtain ⟨bp, okp, rfl, _⟩ := hpc (by simp)
 clear hkc hpc
 refine calls_start 60 Tryd.func67 rfl Tryd.ntmps67 rfl fun a hF => ?_
 have hS := St.refl w0
 refine wK fun Kq1 hKq1 => ?_
 refine wR ?_
 refine wpList_stp (stp_alloc hF (wanted_none rfl) rfl rfl rfl Tryd.zv94 rfl hS fun mm a w hF hS => ?_)
 refine wN ?_
 refine tN (hKq1 _ _ ?_)
 refine wK fun Kq2 hKq2 => ?_
 refine wK fun Kq3 hKq3 => ?_
 refine wR ?_
 refine wg hF rfl rfl rfl (gv_move rfl (hF.t rfl)) fun a hF => ?_
 refine wg hF rfl rfl rfl (gv_len rfl u22 (hF.t rfl)) fun a hF => ?_
 refine wg hF rfl rfl rfl (gv_gtrF rfl (hF.t rfl) (ev_const _ _) (by omega)) fun a hF => ?_
 refine wN ?_
 refine tN (hKq3 _ _ ?_)
 refine wp_cond_false (hF.t rfl) ?_
 refine wp_skip ?_
 refine tN (hKq2 _ _ ?_)
 refine wK fun Kq4 hKq4 => ?_
 refine Fw.wp_region_draw (by kernel_rfl) fun w hx => ?_
 replace hS := hS.ext hx
 clear hx
 refine run_four (fun a w => ∃ inn out, Fr 60 a [(0, .slice (some ⟨bk, ok, none⟩) kl.length ck), (1, .slice (some ⟨bp, okp, none⟩) 2 cp), (4, .pointer (some ⟨mm, 0, none⟩)), (6, .slice (some ⟨inn, 0, none⟩) 64 64), (7, .slice (some ⟨out, 0, none⟩) 64 64)] ∧ St w0 w [⟨true, some out, blkB 5 (List.replicate 64 0)⟩, ⟨true, some inn, blkB 5 (List.replicate 64 0)⟩, ⟨true, some mm, blkB 94 (List.replicate 32 0)⟩]) rfl rfl rfl rfl rfl (by kernel_rfl) (by kernel_rfl) (by kernel_rfl) (by kernel_rfl) (by kernel_rfl) (by kernel_rfl) (by kernel_rfl) (by kernel_rfl) (by kernel_rfl) (by kernel_rfl) (by kernel_rfl) (by kernel_rfl) ?_ ?_ ?_
 ·
  refine stp_make (n := 64) hF (wanted_none rfl) rfl rfl rfl u22 Tryd.ty5 rfl rfl rfl (by omega) (by omega) hS fun inn a w hF hS => ⟨?_, ?_⟩
  ·
   refine stp_make (n := 64) hF (wanted_none rfl) rfl rfl rfl u22 Tryd.ty5 rfl rfl rfl (by omega) (by omega) hS fun out a w hF hS => ?_
   refine stp_gv hF (wanted_none rfl) rfl rfl (gv_assign rfl (hF.t rfl)) fun a hF => ?_
   refine stp_gv hF (wanted_none rfl) rfl rfl (gv_assign rfl (hF.t rfl)) fun a hF => ?_
   refine ⟨inn, out, hF.sub ⟨rfl, rfl, rfl, rfl, rfl, trivial⟩, ?_⟩
   simp only [rep_vB] at hS
   exact hS
  ·
   refine stp_gv hF (wanted_none rfl) rfl rfl (gv_assign rfl (hF.t rfl)) fun a hF => ?_
   refine stp_make (n := 64) hF (wanted_none rfl) rfl rfl rfl u22 Tryd.ty5 rfl rfl rfl (by omega) (by omega) hS fun out a w hF hS => ?_
   refine stp_gv hF (wanted_none rfl) rfl rfl (gv_assign rfl (hF.t rfl)) fun a hF => ?_
   refine ⟨inn, out, hF.sub ⟨rfl, rfl, rfl, rfl, rfl, trivial⟩, ?_⟩
   simp only [rep_vB] at hS
   exact hS
 ·
  refine stp_make (n := 64) hF (wanted_none rfl) rfl rfl rfl u22 Tryd.ty5 rfl rfl rfl (by omega) (by omega) hS fun out a w hF hS => ?_
  refine stp_make (n := 64) hF (wanted_none rfl) rfl rfl rfl u22 Tryd.ty5 rfl rfl rfl (by omega) (by omega) hS fun inn a w hF hS => ?_
  refine stp_gv hF (wanted_none rfl) rfl rfl (gv_assign rfl (hF.t rfl)) fun a hF => ?_
  refine stp_gv hF (wanted_none rfl) rfl rfl (gv_assign rfl (hF.t rfl)) fun a hF => ?_
  refine ⟨inn, out, hF.sub ⟨rfl, rfl, rfl, rfl, rfl, trivial⟩, ?_⟩
  simp only [rep_vB] at hS
  exact hS.move (k := 1) rfl
 rintro a w ⟨inn, out, hF, hS⟩
 refine tN (hKq4 _ _ ?_)
 refine wK fun Kq5 hKq5 => ?_
 refine wR ?_
 refine wg hF rfl rfl rfl (gv_move rfl (hF.t rfl)) fun a hF => ?_
 refine wg hF rfl rfl rfl (gv_move rfl (hF.t rfl)) fun a hF => ?_
 refine wpList_stp (stp_copyB (n := 64) hF (wanted_none rfl) rfl rfl rfl u22 z5 (hF.t rfl) (hF.t rfl) hS (k := 1) rfl List.length_replicate (hk.ext (hS.toExt (nw_cons rfl (nw_cons rfl (nw_cons rfl nw_nil))))) hk0 hk1 fun a w hF hS => ?_)
 refine wN ?_
 refine tN (hKq5 _ _ ?_)
 refine wK fun Kq6 hKq6 => ?_
 refine wR ?_
 refine wg hF rfl rfl rfl (gv_move rfl (hF.t rfl)) fun a hF => ?_
 refine wg hF rfl rfl rfl (gv_move rfl (hF.t rfl)) fun a hF => ?_
 refine wpList_stp (stp_copyB (n := 64) hF (wanted_none rfl) rfl rfl rfl u22 z5 (hF.t rfl) (hF.t rfl) hS (k := 0) rfl List.length_replicate (hk.ext (hS.toExt (nw_cons rfl (nw_cons rfl (nw_cons rfl nw_nil))))) hk0 hk1 fun a w hF hS => ?_)
 refine wN ?_
 refine tN (hKq6 _ _ ?_)
 refine wK fun Kq7 hKq7 => ?_
 refine wK fun Kq8 hKq8 => ?_
 refine wR ?_
 refine wg hF rfl rfl rfl (gv_move rfl (hF.t rfl)) fun a hF => ?_
 refine wg hF rfl rfl rfl (gv_len rfl u22 (hF.t rfl)) fun a hF => ?_
 refine wg hF rfl rfl rfl (gv_move rfl (ev_const _ _)) fun a hF => ?_
 refine wN ?_
 refine tN (hKq8 _ _ ?_)
 refine wp_block ?_
 refine wp_loop_n (fun n a w => ∃ i, i ≤ 64 ∧ n = 64 - i ∧ Fr 60 a [(0, .slice (some ⟨bk, ok, none⟩) kl.length ck), (1, .slice (some ⟨bp, okp, none⟩) 2 cp), (4, .pointer (some ⟨mm, 0, none⟩)), (6, .slice (some ⟨inn, 0, none⟩) 64 64), (7, .slice (some ⟨out, 0, none⟩) 64 64), (27, vI 64), (28, vI i)] ∧ St w0 w [⟨true, some out, blkB 5 (xo 92 (padK kl) i)⟩, ⟨true, some inn, blkB 5 (xo 54 (padK kl) i)⟩, ⟨true, some mm, blkB 94 (List.replicate 32 0)⟩]) 64 ⟨0, by omega, by omega, hF.sub ⟨rfl, rfl, rfl, rfl, rfl, rfl, rfl, trivial⟩, hS⟩ ?_
 rintro n a w ⟨i, hi, hn, hF, hS⟩
 refine wK fun Kq9 hKq9 => ?_
 refine wR ?_
 refine wg hF rfl rfl rfl (gv_lss rfl (hF.t rfl) (hF.t rfl)) fun a hF => ?_
 refine wN ?_
 refine tN (hKq9 _ _ ?_)
 refine wK fun Kq10 hKq10 => ?_
 refine cond_dec (hF.t rfl) (fun h29 => ?_) (fun h29 => ?_)
 ·
  refine wp_skip ?_
  refine tN (hKq10 _ _ ?_)
  refine wK fun Kq11 hKq11 => ?_
  refine wp_block ?_
  refine wK fun Kq12 hKq12 => ?_
  refine wR ?_
  refine wg hF rfl rfl rfl (gv_move rfl (hF.t rfl)) fun a hF => ?_
  refine wg hF rfl rfl rfl (gv_assign rfl (hF.t rfl)) fun a hF => ?_
  refine wN ?_
  refine tN (hKq12 _ _ ?_)
  refine wK fun Kq13 hKq13 => ?_
  refine wR ?_
  refine wg hF rfl rfl rfl (gv_move rfl (hF.t rfl)) fun a hF => ?_
  refine wg hF rfl rfl rfl (gv_move rfl (hF.t rfl)) fun a hF => ?_
  refine wg hF rfl rfl rfl (gv_indexSl rfl u22 z5 (hF.t rfl) (hF.t rfl) (by omega)) fun a hF => ?_
  refine wg hF rfl rfl rfl (gv_load rfl u5 rfl (hF.t rfl) (cell_ix (hS.cellB (k := 1) rfl (i) (by rw [xo_len, padK_len hk1]; omega)) (by omega))) fun a hF => ?_
  refine wg hF rfl rfl rfl (gv_b_xor (n := 54) rfl (hF.t rfl) rfl) fun a hF => ?_
  refine wg hF rfl rfl rfl (gv_indexSl rfl u22 z5 (hF.t rfl) (hF.t rfl) (by omega)) fun a hF => ?_
  refine wpList_stp (stp_storeB (i) hF (wanted_none rfl) rfl rfl z5 (hF.t rfl) (by omega) (hF.t rfl) hS (k := 1) rfl (by rw [xo_len, padK_len hk1]; omega) fun w hS => ?_)
  refine wN ?_
  refine tN (hKq13 _ _ ?_)
  refine wR ?_
  refine wg hF rfl rfl rfl (gv_move rfl (hF.t rfl)) fun a hF => ?_
  refine wg hF rfl rfl rfl (gv_move rfl (hF.t rfl)) fun a hF => ?_
  refine wg hF rfl rfl rfl (gv_indexSl rfl u22 z5 (hF.t rfl) (hF.t rfl) (by omega)) fun a hF => ?_
  refine wg hF rfl rfl rfl (gv_load rfl u5 rfl (hF.t rfl) (cell_ix (hS.cellB (k := 0) rfl (i) (by rw [xo_len, padK_len hk1]; omega)) (by omega))) fun a hF => ?_
  refine wg hF rfl rfl rfl (gv_b_xor (n := 92) rfl (hF.t rfl) rfl) fun a hF => ?_
  refine wg hF rfl rfl rfl (gv_indexSl rfl u22 z5 (hF.t rfl) (hF.t rfl) (by omega)) fun a hF => ?_
  refine wpList_stp (stp_storeB (i) hF (wanted_none rfl) rfl rfl z5 (hF.t rfl) (by omega) (hF.t rfl) hS (k := 0) rfl (by rw [xo_len, padK_len hk1]; omega) fun w hS => ?_)
  refine wN ?_
  refine block_normal ?_
  refine tN (hKq11 _ _ ?_)
  refine wR ?_
  refine wg hF rfl rfl rfl (gv_nadd (n := 1) rfl (hF.t rfl) rfl (by omega)) fun a hF => ?_
  refine wg hF rfl rfl rfl (gv_move rfl (hF.t rfl)) fun a hF => ?_
  refine wN ?_
  refine then_normal ?_
  exact ⟨n - 1, by omega, i + 1, by omega, by omega, hF.sub ⟨rfl, rfl, rfl, rfl, rfl, rfl, rfl, trivial⟩, hS⟩
 ·
  refine wp_exit ?_
  refine then_exit ?_
  refine then_exit ?_
  refine block_exit ?_
  refine tN (hKq7 _ _ ?_)
  refine wK fun Kq14 hKq14 => ?_
  refine wK fun Kq15 hKq15 => ?_
  refine wR ?_
  refine wg hF rfl rfl rfl (gv_move rfl (hF.t rfl)) fun a hF => ?_
  refine wg hF rfl rfl rfl (gv_len rfl u156 (hF.t rfl)) fun a hF => ?_
  refine wg hF rfl rfl rfl (gv_move rfl (ev_const _ _)) fun a hF => ?_
  refine wN ?_
  refine tN (hKq15 _ _ ?_)
  refine wp_block ?_
  obtain rfl : i = 64 := by omega
  have hxl : (xo 54 (padK kl) 64).length = 64 := by rw [xo_len, padK_len hk1]
  refine wp_loop_n (fun q a w => ∃ (i inn : Nat) (ip : List Value), i ≤ 2 ∧ q = 2 - i ∧ (inM kl l0 l1 i).length + ip.length ≤ 9223372036854775807 ∧ Fr 60 a [(0, .slice (some ⟨bk, ok, none⟩) kl.length ck), (1, .slice (some ⟨bp, okp, none⟩) 2 cp), (4, .pointer (some ⟨mm, 0, none⟩)), (6, ownV (some inn) (inM kl l0 l1 i).length ((inM kl l0 l1 i).length + ip.length)), (7, .slice (some ⟨out, 0, none⟩) 64 64), (44, .slice (some ⟨bp, okp, none⟩) 2 cp), (45, vI 2), (46, vI i)] ∧ St w0 w [⟨true, some out, blkB 5 (xo 92 (padK kl) 64)⟩, ⟨true, some inn, blk 5 ((inM kl l0 l1 i).map vB ++ ip)⟩, ⟨true, some mm, blkB 94 (List.replicate 32 0)⟩]) 2 ⟨0, inn, [], by omega, by omega, (by rw [← inM_zero, hxl]; simp), (by rw [← inM_zero, hxl]; exact hF.sub ⟨rfl, rfl, rfl, rfl, rfl, rfl, rfl, rfl, trivial⟩), (by rw [← inM_zero, List.append_nil]; exact hS)⟩ ?_
  rintro q a w ⟨i, inn, ip, hi, hn, ic, hF, hS⟩
  refine wK fun Kq16 hKq16 => ?_
  refine wR ?_
  refine wg hF rfl rfl rfl (gv_lss rfl (hF.t rfl) (hF.t rfl)) fun a hF => ?_
  refine wN ?_
  refine tN (hKq16 _ _ ?_)
  refine wK fun Kq17 hKq17 => ?_
  refine cond_dec (hF.t rfl) (fun h47 => ?_) (fun h47 => ?_)
  ·
   refine wp_skip ?_
   refine tN (hKq17 _ _ ?_)
   refine wK fun Kq18 hKq18 => ?_
   refine wp_block ?_
   refine wK fun Kq19 hKq19 => ?_
   refine wR ?_
   refine wg hF rfl rfl rfl (gv_indexSl rfl u156 z22 (hF.t rfl) (hF.t rfl) (by omega)) fun a hF => ?_
   refine wg hF rfl rfl rfl (gv_load rfl u22 rfl (hF.t rfl) (cell_ix ((hp.ext (hS.toExt (nw_cons rfl (nw_cons rfl (nw_cons rfl nw_nil))))).rdcell (pair_get (i := i) (by omega))) (by omega))) fun a hF => ?_
   refine wg hF rfl rfl rfl (gv_assign rfl (hF.t rfl)) fun a hF => ?_
   refine wN ?_
   refine tN (hKq19 _ _ ?_)
   refine wR ?_
   refine wg hF rfl rfl rfl (gv_move rfl (hF.t rfl)) fun a hF => ?_
   refine wg hF rfl rfl rfl (gv_move rfl (hF.t rfl)) fun a hF => ?_
   have hR : Rd w (if i = 0 then p0 else p1) ((if i = 0 then l0 else l1).map vB) := by
    by_cases h0' : i = 0
    ·
     rw [if_pos h0', if_pos h0']; exact h0.ext (hS.toExt (nw_cons rfl (nw_cons rfl (nw_cons rfl nw_nil))))
    ·
     rw [if_neg h0', if_neg h0']; exact h1.ext (hS.toExt (nw_cons rfl (nw_cons rfl (nw_cons rfl nw_nil))))
   have hil := inM_len (l0 := l0) (l1 := l1) hk1 i
   have hll : (if i = 0 then l0 else l1).length ≤ l0.length + l1.length := by split <;> omega
   refine wpList_stp (stp_appB (ob := some inn) (ml := if i = 0 then l0 else l1) (k := 1) hF (wanted_none rfl) rfl rfl rfl u22 Tryd.ty5 rfl (hF.t rfl) (hF.t rfl) hS rfl (fun h => by cases h) ic hR (by omega) fun inn ip a w hF io ic hS => ?_)
   rw [inM_succ (by omega)] at hF io ic hS
   obtain ⟨inn, rfl⟩ : ∃ b, inn = some b := by
    cases inn with
    | none => have := congrArg List.length (io rfl).1; rw [inM, List.length_append, xo_len, padK_len hk1] at this; simp at this
    | some b => exact ⟨b, rfl⟩
   clear io hR
   refine wg hF rfl rfl rfl (gv_assign rfl (hF.t rfl)) fun a hF => ?_
   refine wN ?_
   refine block_normal ?_
   refine tN (hKq18 _ _ ?_)
   refine wR ?_
   refine wg hF rfl rfl rfl (gv_nadd (n := 1) rfl (hF.t rfl) rfl (by omega)) fun a hF => ?_
   refine wg hF rfl rfl rfl (gv_move rfl (hF.t rfl)) fun a hF => ?_
   refine wN ?_
   refine then_normal ?_
   exact ⟨q - 1, by omega, i + 1, inn, ip, by omega, by omega, ic, hF.sub ⟨rfl, rfl, rfl, rfl, rfl, rfl, rfl, rfl, trivial⟩, hS⟩
  ·
   refine wp_exit ?_
   refine then_exit ?_
   refine then_exit ?_
   refine block_exit ?_
   refine tN (hKq14 _ _ ?_)
   refine wK fun Kq20 hKq20 => ?_
   obtain rfl : i = 2 := by omega
   refine wR ?_
   refine wg hF rfl rfl rfl (gv_move rfl (hF.t rfl)) fun a hF => ?_
   refine wpList_stp (stp_call hF (wanted_none rfl) rfl rfl Tryd.ok65 rfl (Evs.cons (hF.t rfl) Evs.nil) (sum_ok (hG.ext (hS.toExt (nw_cons rfl (nw_cons rfl (nw_cons rfl nw_nil))))) (rd_own (l := inM kl l0 l1 2) hS (List.mem_of_getElem? (i := 1) rfl) (nw_cons rfl (nw_cons rfl (nw_cons rfl nw_nil))) (fun h => by cases h) rfl ic) (by have := inM_len (l0 := l0) (l1 := l1) hk1 2; omega)) fun e w h => ?_)
   obtain ⟨rfl, hx⟩ := h
   refine ⟨_, rfl, fun a hF => ?_⟩
   replace hS := hS.ext hx
   clear hx
   refine wpList_stp (stp_alloc hF (wanted_none rfl) rfl rfl rfl Tryd.zv94 rfl hS fun s a w hF hS => ?_)
   refine wpList_stp (stp_storeAll hF (wanted_none rfl) rfl rfl (z94.trans (congrArg some (by rw [List.length_map, sum256_len]))) (hF.t rfl) (hF.t rfl) (one_B _) hS (k := 0) rfl (by rw [List.length_map, sum256_len]; rfl) fun w hS => ?_)
   refine wN ?_
   refine tN (hKq20 _ _ ?_)
   refine wK fun Kq21 hKq21 => ?_
   refine wR ?_
   refine wg hF rfl rfl rfl (gv_move rfl (hF.t rfl)) fun a hF => ?_
   refine wg hF rfl rfl rfl (gv_sliceArr rfl u94 z5 (hF.t rfl)) fun a hF => ?_
   have hs := rd_blkB (n := 32) hS List.mem_cons_self (sum256_len _) (by omega)
   have hxl : (xo 92 (padK kl) 64).length = 64 := by rw [xo_len, padK_len hk1]
   have hS' : St w0 w [⟨true, some s, blkB 94 (sum256 (inM kl l0 l1 2))⟩, ⟨true, some out, blk 5 ((xo 92 (padK kl) 64).map vB ++ [])⟩, ⟨true, some inn, blk 5 ((inM kl l0 l1 2).map vB ++ ip)⟩, ⟨true, some mm, blkB 94 (List.replicate 32 0)⟩] := by rw [List.append_nil]; exact hS
   refine wpList_stp (stp_appB (ob := some out) (l := xo 92 (padK kl) 64) (pad := []) (k := 1) hF (wanted_none rfl) rfl rfl rfl u22 Tryd.ty5 rfl (by rw [hxl]; exact hF.t rfl) (hF.t rfl) hS' rfl (fun h => by cases h) (by rw [hxl]; simp) hs (by rw [hxl, sum256_len]; omega) fun out op a w hF oo oc hS => ?_)
   clear hS'
   refine wpList_stp (stp_call hF (wanted_none rfl) rfl rfl Tryd.ok65 rfl (Evs.cons (hF.t rfl) Evs.nil) (sum_ok (hG.ext (hS.toExt (nw_cons rfl (nw_cons rfl (nw_cons rfl (nw_cons rfl nw_nil)))))) (rd_own (l := xo 92 (padK kl) 64 ++ sum256 (inM kl l0 l1 2)) hS (List.mem_of_getElem? (i := 1) rfl) (nw_cons rfl (nw_cons rfl (nw_cons rfl (nw_cons rfl nw_nil)))) oo rfl oc) (by rw [List.length_append, sum256_len, xo_len, padK_len hk1]; omega)) fun e w h => ?_)
   obtain ⟨rfl, hx⟩ := h
   refine ⟨_, rfl, fun a hF => ?_⟩
   replace hS := hS.ext hx
   clear hx
   refine wpList_stp (stp_storeAll hF (wanted_none rfl) rfl rfl (z94.trans (congrArg some (by rw [List.length_map, sum256_len]))) (hF.t rfl) (hF.t rfl) (one_B _) hS (k := 3) rfl (by rw [List.length_map, sum256_len]; rfl) fun w hS => ?_)
   refine wN ?_
   refine tN (hKq21 _ _ ?_)
   refine wp_ret ?_
   refine retCell (fn := Tryd.f67) hF rfl u94 rfl (z94.trans (congrArg some (by rw [List.length_map, sum256_len]))) rfl hS (k := 3) rfl ⟨rfl, hS.toExt (nw_cons rfl (nw_cons rfl (nw_cons rfl (nw_cons rfl nw_nil))))⟩
def codeF (seq : UInt32) (ml pl : List UInt8) : List UInt8 := macF ml (u32B seq) pl
theorem codeF_len (seq : UInt32) (ml pl : List UInt8) : (codeF seq ml pl).length = 32 := macF_len _ _ _
theorem u32_nil {x : UInt32} {w : World} : Calls Tryd.prog 45 #[.slice none 0 0, vW x] w fun e w' => ∃ v, e = .returned v ∧ (v.cells = #[v] ∧ Rd w' v ((u32B x).map vB)) ∧ Ext w w' := by
 refine (u32_ok (o := none) (l := []) (op := []) (x := x) (nw_nil) ((St.refl w).addNil _) (fun _ => ⟨rfl, rfl⟩) (by simp) (by simp)).mono fun e w' h => ?_
 obtain ⟨o, op, rfl, oo, oc, hS⟩ := h
 simp only [List.nil_append] at hS oo oc ⊢
 exact ⟨_, rfl, ⟨by cases o <;> rfl, rd_own hS List.mem_cons_self (nw_cons rfl nw_nil) oo rfl oc⟩, hS.toExt (nw_cons rfl nw_nil)⟩
theorem code_ok {b : Nat} {seq : UInt32} {mv pv : Value} {ml pl : List UInt8} {w0 : World} (hG : Glob w0) (h0 : w0.cell? ⟨b, 0, none⟩ = some (vW seq)) (h2 : w0.cell? ⟨b, 2, none⟩ = some mv) (hm : Rd w0 mv (ml.map vB)) (hl : ml.length = 32) (hp : Rd w0 pv (pl.map vB)) (hn : pl.length ≤ 68719476736) :
  Calls Tryd.prog 47 #[.pointer (some ⟨b, 0, none⟩), pv] w0 fun e w' => ∃ v, e = .returned v ∧ Rd w' v ((codeF seq ml pl).map vB) ∧ Ext w0 w' := by
 obtain ⟨Am, cm, hmv, hm1, hm2, _⟩ := hm.isB
 subst hmv
 obtain ⟨Ap, cp, hpv, hp1, hp2, _⟩ := hp.isB
 subst hpv
 refine calls_start 19 Tryd.func47 rfl Tryd.ntmps47 rfl fun a hF => ?_
 have hS := St.refl w0
 refine wK fun Kq1 hKq1 => ?_
 refine wR ?_
 refine wg hF rfl rfl rfl (gv_assign rfl (ev_const _ _)) fun a hF => ?_
 refine wN ?_
 refine tN (hKq1 _ _ ?_)
 refine wK fun Kq2 hKq2 => ?_
 refine Fw.wp_region_draw (by kernel_rfl) fun w hx => ?_
 replace hS := hS.ext hx
 clear hx
 refine run_headS (n := 13) _ [(8, 14, fun v w => v.cells = #[v] ∧ Rd w v ((u32B seq).map vB)), (10, 16, fun v w => ∃ v8, Rd w v [v8, .slice Ap pl.length cp] ∧ Rd w v8 ((u32B seq).map vB)), (11, 17, FlE (.agg ((macF ml (u32B seq) pl).map vB).toArray)), (12, 5, FlB w 94 ((List.replicate 32 (0 : UInt8)).map vB))] hF (by kernel_rfl) rfl (fa_cons rfl (fa_cons rfl (fa_cons rfl (fa_cons rfl fa_nil)))) (fa_cons (fun _ _ _ h hx => ⟨h.1, h.2.ext hx⟩) (fa_cons (fun _ _ _ ⟨v8, h, h2⟩ hx => ⟨v8, h.ext hx, h2.ext hx⟩) (fa_cons (FlE.lasts _) (fa_cons (FlB.lasts _ _ _) fa_nil)))) (fa_cons ⟨Nat.zero_le _, Nat.le_of_ble_eq_true rfl⟩ (fa_cons ⟨Nat.zero_le _, Nat.le_of_ble_eq_true rfl⟩ (fa_cons ⟨Nat.zero_le _, Nat.le_of_ble_eq_true rfl⟩ (fa_cons ⟨Nat.zero_le _, Nat.le_of_ble_eq_true rfl⟩ fa_nil)))) rfl ?_
 refine dg hF rfl rfl rfl rfl (fun w hx => gv_move rfl (hF.t rfl)) fun a hF => ?_
 refine dg hF rfl rfl rfl rfl (fun w hx => gv_nilCheck rfl (hF.t rfl)) fun a hF => ?_
 refine dg hF rfl rfl rfl rfl (fun w hx => gv_field (r := 2) rfl u35 rfl rfl z22 (by decide) (hF.t rfl)) fun a hF => ?_
 refine dg hF rfl rfl rfl rfl (fun w hx => gv_load rfl u22 rfl (hF.t rfl) (cell_ext h2 ((hS.ext hx).toExt nw_nil))) fun a hF => ?_
 refine dg hF rfl rfl rfl rfl (fun w hx => gv_move rfl (hF.t rfl)) fun a hF => ?_
 refine dg hF rfl rfl rfl rfl (fun w hx => gv_nilCheck rfl (hF.t rfl)) fun a hF => ?_
 refine dg hF rfl rfl rfl rfl (fun w hx => gv_field (r := 0) rfl u35 rfl rfl z32 (by decide) (hF.t rfl)) fun a hF => ?_
 refine dg hF rfl rfl rfl rfl (fun w hx => gv_load rfl u32 rfl (hF.t rfl) (cell_ext h0 ((hS.ext hx).toExt nw_nil))) fun a hF => ?_
 refine dw_fl rfl ?_
 refine dg hF rfl rfl rfl rfl (fun w hx => gv_move rfl (hF.t rfl)) fun a hF => ?_
 refine dw_fl rfl ?_
 refine dw_fl rfl ?_
 refine dw_fl rfl ?_
 refine dw_nil ⟨(fa_cons ?_ (fa_cons ?_ (fa_cons ?_ (fa_cons ?_ fa_nil)))), fun a w hx hA hR => ?_⟩
 ·
  intro a w hx hA hdp
  replace hF := hA _ hF
  replace hS := hS.ext hx
  exact ⟨_, rfl, sx_call (wanted_none rfl) Tryd.ok45 rfl (Evs.cons (ev_const _ _) (Evs.cons (hF.t rfl) Evs.nil)) u32_nil⟩
 ·
  intro a w hx hA hdp
  replace hF := hA _ hF
  replace hS := hS.ext hx
  exact ⟨_, rfl, (have h8 := (hdp _ (List.mem_of_getElem? (i := 0) rfl) (by kernel_rfl)); sx_build2 (wanted_none rfl) rfl u156 Tryd.ty22 rfl h8.1 rfl (hF.t rfl) (hF.t rfl) ⟨_, (by have := hS.alloc (.cells [slot a 14, .slice Ap pl.length cp].toArray 22); have h3 := this.rdOf (k := 0) (nw := true) (t := 22) (cs := [slot a 14, .slice Ap pl.length cp]) rfl 0 2 2 (by simp) (by omega) (by omega); exact h3), h8.2.ext (Ext.alloc _ _)⟩)⟩
 ·
  intro a w hx hA hdp
  replace hF := hA _ hF
  replace hS := hS.ext hx
  exact ⟨_, rfl, (have ⟨v8, h8, h8'⟩ := (hdp _ (List.mem_of_getElem? (i := 1) rfl) (by kernel_rfl)); sx_call (wanted_none rfl) Tryd.ok67 rfl (Evs.cons (hF.t rfl) (Evs.cons (hF.t rfl) Evs.nil)) ((mac_ok (hG.ext (hS.toExt nw_nil)) (hm.ext (hS.toExt nw_nil)) (by omega) (by omega) h8 h8' (hp.ext (hS.toExt nw_nil)) (by rw [u32B_len]; omega)).mono fun e w' h => ⟨_, h.1, rfl, h.2⟩))⟩
 ·
  intro a w hx hA hdp
  replace hF := hA _ hF
  replace hS := hS.ext hx
  exact ⟨_, rfl, (⟨(wanted_none rfl), .inl ⟨_, _, run_allocOp rfl Tryd.zv94 rfl, Ext.alloc _ _, ⟨_, rfl, hx.size, heap_alloc_new _ _⟩⟩⟩)⟩
 replace hF := hA _ hF
 obtain ⟨c, hv, hR1, hR2⟩ := hR _ (List.mem_of_getElem? (i := 3) rfl)
 have hmv := hR _ (List.mem_of_getElem? (i := 2) rfl)
 replace hS := hS.float hx hR1 hR2
 replace hF : Fr 19 a [(17, .agg ((macF ml (u32B seq) pl).map vB).toArray), (5, .pointer (some ⟨c, 0, none⟩))] := hF.sub ⟨congrArg some hmv, congrArg some hv, trivial⟩
 clear hA hx hR
 refine run_stp (by kernel_rfl) rfl (stp_storeAll hF (wanted_none rfl) rfl rfl (z94.trans (congrArg some (by rw [List.length_map, macF_len]))) (hF.t rfl) (hF.t rfl) (one_B _) hS (k := 0) rfl (by rw [List.length_map, macF_len]; rfl) fun w hS => ?_)
 refine run_done (by decide) ?_
 refine tN (hKq2 _ _ ?_)
 refine wK fun Kq3 hKq3 => ?_
 refine wR ?_
 refine wg hF rfl rfl rfl (gv_sliceArr rfl u94 z5 (hF.t rfl)) fun a hF => ?_
 refine wg hF rfl rfl rfl (gv_assign rfl (hF.t rfl)) fun a hF => ?_
 refine wN ?_
 refine tN (hKq3 _ _ ?_)
 refine wp_ret ?_
 refine ret1 (fn := Tryd.f47) (t := 4) hF rfl rfl ?_
 exact ⟨_, rfl, rd_blkB hS List.mem_cons_self (codeF_len _ _ _) (by omega), hS.toExt (nw_cons rfl nw_nil)⟩
end Go.Proofs.YtfhalnobaeogkaaDoor
set_option linter.unusedVariables false
set_option linter.unusedSimpArgs false
namespace Go.Proofs.YtfhalnobaeogkaaDoor
open Go Go.RowKit Go.Fw
theorem z160 : (Tryd.prog.info? 160).map (·.size) = some 256 := by kernel_rfl
theorem Tryd.zv160 : (Tryd.prog.info? 160).map (·.zero) = some (some (Value.agg ((List.replicate 256 (0 : Nat)).map vI).toArray)) := by kernel_rfl
theorem Tryd.ok95 : CallOk Tryd.prog 95 := ⟨_, Tryd.func95, by kernel_rfl, by kernel_rfl⟩
def dbN (a : Nat) : Nat := if 255 < a * 2 then (a * 2) ^^^ 283 else a * 2
def tmsF : Nat → Nat → Nat → Nat → Nat
 | 0, r, _, _ => r
 | n + 1, r, a, b => if b = 0 then r else tmsF n (if b % 2 = 1 then r ^^^ a else r) (dbN a) (b / 2)
def tms (a b : Nat) : Nat := tmsF 8 0 a b
theorem dbN_lt : ∀ a, a < 256 → dbN a < 256 := by decide +kernel
theorem xor_lt {a b : Nat} (ha : a < 256) (hb : b < 256) : a ^^^ b < 256 := Nat.xor_lt_two_pow (n := 8) ha hb
theorem tmsF_lt : ∀ (n r a b : Nat), r < 256 → a < 256 → tmsF n r a b < 256
 | 0, r, a, b, hr, _ => hr
 | n + 1, r, a, b, hr, ha => by
  unfold tmsF; split
  ·
   exact hr
  ·
   refine tmsF_lt n _ _ _ ?_ (dbN_lt a ha)
   split
   ·
    exact xor_lt hr ha
   ·
    exact hr
theorem tms_lt (a b : Nat) (ha : a < 256) : tms a b < 256 := tmsF_lt 8 0 a b (by omega) ha
theorem tmsF_zero (n r a : Nat) : tmsF n r a 0 = r := by cases n <;> simp [tmsF]
theorem tmsF_step {n r a b : Nat} (h : 0 < b) : tmsF (n + 1) r a b = tmsF n (if b % 2 = 1 then r ^^^ a else r) (dbN a) (b / 2) := by rw [tmsF, if_neg (by omega)]
theorem times_ok {a0 b0 : Nat} {w0 : World} (ha : a0 < 256) (hb : b0 < 256) :
  Calls Tryd.prog 95 #[vI a0, vI b0] w0 fun e w' => e = .returned (vI (tms a0 b0)) ∧ Ext w0 w' := by
 refine calls_start 23 Tryd.func95 rfl Tryd.ntmps95 rfl fun a hF => ?_
 have hS := St.refl w0
 refine wK fun Kq1 hKq1 => ?_
 refine wR ?_
 refine wg hF rfl rfl rfl (gv_assign rfl (ev_const _ _)) fun a hF => ?_
 refine wN ?_
 refine tN (hKq1 _ _ ?_)
 refine wK fun Kq2 hKq2 => ?_
 refine wR ?_
 refine wg hF rfl rfl rfl (gv_assign rfl (ev_const _ _)) fun a hF => ?_
 refine wN ?_
 refine tN (hKq2 _ _ ?_)
 refine wK fun Kq3 hKq3 => ?_
 refine wp_block ?_
 refine wp_loop_n (fun n a w => ∃ A B R, A < 256 ∧ B < 256 ∧ R < 256 ∧ n ≤ 8 ∧ B < 2 ^ n ∧ tmsF n R A B = tms a0 b0 ∧ Fr 23 a [(0, vI A), (1, vI B), (5, vI R)] ∧ St w0 w []) 8 ⟨a0, b0, 0, ha, hb, by omega, by omega, by omega, rfl, hF.sub ⟨rfl, rfl, rfl, trivial⟩, hS⟩ ?_
 rintro n a w ⟨A, B, R, hA, hB8, hR, hn, hB, hT, hF, hS⟩
 refine wK fun Kq4 hKq4 => ?_
 refine wK fun Kq5 hKq5 => ?_
 refine wR ?_
 refine wg hF rfl rfl rfl (gv_move rfl (hF.t rfl)) fun a hF => ?_
 refine wg hF rfl rfl rfl (gv_gtr rfl (hF.t rfl) (ev_const _ _)) fun a hF => ?_
 refine wN ?_
 refine tN (hKq5 _ _ ?_)
 refine cond_dec (hF.t rfl) (fun h7 => ?_) (fun h7 => ?_)
 ·
  obtain ⟨m, rfl⟩ : ∃ m, n = m + 1 := ⟨n - 1, by rcases n with _ | n <;> omega⟩
  rw [Nat.pow_succ] at hB
  rw [tmsF_step (by omega)] at hT
  clear h7
  refine wp_skip ?_
  refine tN (hKq4 _ _ ?_)
  refine wp_block ?_
  refine wp_cut (fun a w => Fr 23 a [(0, vI A), (1, vI B), (5, vI (if B % 2 = 1 then R ^^^ A else R))] ∧ St w0 w []) ?_ ?_
  ·
   refine wK fun Kq6 hKq6 => ?_
   refine wR ?_
   refine wg hF rfl rfl rfl (gv_move rfl (hF.t rfl)) fun a hF => ?_
   refine wg hF rfl rfl rfl (gv_nrem (n := 2) rfl (hF.t rfl) rfl (by omega)) fun a hF => ?_
   refine wg hF rfl rfl rfl (gv_eql rfl (hF.t rfl) (ev_const _ _)) fun a hF => ?_
   refine wN ?_
   refine tN (hKq6 _ _ ?_)
   refine cond_dec (hF.t rfl) (fun h10 => ?_) (fun h10 => ?_)
   ·
    refine wR ?_
    refine wg hF rfl rfl rfl (gv_move rfl (hF.t rfl)) fun a hF => ?_
    refine wg hF rfl rfl rfl (gv_move rfl (hF.t rfl)) fun a hF => ?_
    refine wg hF rfl rfl rfl (gv_n_xor rfl (hF.t rfl) (hF.t rfl) (by omega) (by omega)) fun a hF => ?_
    refine wg hF rfl rfl rfl (gv_assign rfl (hF.t rfl)) fun a hF => ?_
    refine wN ?_
    refine then_normal ?_
    exact ⟨by rw [if_pos (by omega)]; exact hF.sub ⟨rfl, rfl, rfl, trivial⟩, hS⟩
   ·
    refine wp_skip ?_
    refine then_normal ?_
    exact ⟨by rw [if_neg (by omega)]; exact hF.sub ⟨rfl, rfl, rfl, trivial⟩, hS⟩
  ·
   rintro a w ⟨hF, hS⟩
   refine wK fun Kq7 hKq7 => ?_
   refine wR ?_
   refine wg hF rfl rfl rfl (gv_move rfl (hF.t rfl)) fun a hF => ?_
   refine wg hF rfl rfl rfl (gv_nmul (n := 2) rfl (hF.t rfl) rfl (by omega)) fun a hF => ?_
   refine wg hF rfl rfl rfl (gv_assign rfl (hF.t rfl)) fun a hF => ?_
   refine wN ?_
   refine tN (hKq7 _ _ ?_)
   refine wp_cut (fun a w => Fr 23 a [(0, vI (dbN A)), (1, vI B), (5, vI (if B % 2 = 1 then R ^^^ A else R))] ∧ St w0 w []) ?_ ?_
   ·
    refine wK fun Kq8 hKq8 => ?_
    refine wR ?_
    refine wg hF rfl rfl rfl (gv_move rfl (hF.t rfl)) fun a hF => ?_
    refine wg hF rfl rfl rfl (gv_gtr rfl (hF.t rfl) (ev_const _ _)) fun a hF => ?_
    refine wN ?_
    refine tN (hKq8 _ _ ?_)
    refine cond_dec (hF.t rfl) (fun h17 => ?_) (fun h17 => ?_)
    ·
     refine wR ?_
     refine wg hF rfl rfl rfl (gv_move rfl (hF.t rfl)) fun a hF => ?_
     refine wg hF rfl rfl rfl (gv_n_xor (n := 283) rfl (hF.t rfl) rfl (by omega) (by omega)) fun a hF => ?_
     refine wg hF rfl rfl rfl (gv_assign rfl (hF.t rfl)) fun a hF => ?_
     refine wN ?_
     refine then_normal ?_
     exact ⟨by rw [dbN, if_pos (by omega)]; exact hF.sub ⟨rfl, rfl, rfl, trivial⟩, hS⟩
    ·
     refine wp_skip ?_
     refine then_normal ?_
     exact ⟨by rw [dbN, if_neg (by omega)]; exact hF.sub ⟨rfl, rfl, rfl, trivial⟩, hS⟩
   ·
    rintro a w ⟨hF, hS⟩
    refine wR ?_
    refine wg hF rfl rfl rfl (gv_move rfl (hF.t rfl)) fun a hF => ?_
    refine wg hF rfl rfl rfl (gv_nquo (n := 2) rfl (hF.t rfl) rfl (by omega) (by omega)) fun a hF => ?_
    refine wg hF rfl rfl rfl (gv_assign rfl (hF.t rfl)) fun a hF => ?_
    refine wN ?_
    refine block_normal ?_
    refine then_normal ?_
    exact ⟨m, by omega, dbN A, B / 2, (if B % 2 = 1 then R ^^^ A else R), dbN_lt A hA, by omega, by split <;> first | exact xor_lt hR hA | exact hR, by omega, by omega, hT, hF.sub ⟨rfl, rfl, rfl, trivial⟩, hS⟩
 ·
  obtain rfl : B = 0 := by omega
  rw [tmsF_zero] at hT
  refine wp_exit ?_
  refine then_exit ?_
  refine then_exit ?_
  refine block_exit ?_
  refine tN (hKq3 _ _ ?_)
  refine wK fun Kq9 hKq9 => ?_
  refine wR ?_
  refine wg hF rfl rfl rfl (gv_move rfl (hF.t rfl)) fun a hF => ?_
  refine wg hF rfl rfl rfl (gv_assign rfl (hF.t rfl)) fun a hF => ?_
  refine wN ?_
  refine tN (hKq9 _ _ ?_)
  refine wp_ret ?_
  refine ret1 (fn := Tryd.f95) (t := 4) hF rfl rfl ?_
  exact ⟨by rw [hT], hS.toExt nw_nil⟩
def invS : Nat → (Nat × Nat) × List Nat
 | 0 => ((1, 1), List.replicate 256 0)
 | i + 1 => ((tms (invS i).1.1 3, tms (invS i).1.2 246), (invS i).2.set (invS i).1.1 (invS i).1.2)
theorem invS_succ (i : Nat) : invS (i + 1) = ((tms (invS i).1.1 3, tms (invS i).1.2 246), (invS i).2.set (invS i).1.1 (invS i).1.2) := rfl
theorem invS_ok (i : Nat) : (invS i).1.1 < 256 ∧ (invS i).1.2 < 256 ∧ (invS i).2.length = 256 ∧ ∀ x ∈ (invS i).2, x < 256 := by
 induction i with
 | zero => exact ⟨by decide, by decide, List.length_replicate, fun x h => by rw [(List.mem_replicate.1 h).2]; decide⟩
 | succ i ih =>
  obtain ⟨h1, h2, h3, h4⟩ := ih
  rw [invS_succ]
  dsimp only
  refine ⟨tms_lt _ _ h1, tms_lt _ _ h2, by simp only [List.length_set, h3], fun x hx => ?_⟩
  rcases List.mem_or_eq_of_mem_set hx with h | rfl
  ·
   exact h4 x h
  ·
   exact h2
theorem getD_lt {l : List Nat} (h : ∀ x ∈ l, x < 256) (i : Nat) : l.getD i 0 < 256 := by
 rw [List.getD_eq_getElem?_getD]
 cases e : l[i]? with
 | none => decide
 | some x => exact h x (List.mem_of_getElem? e)
def invL : List Nat := (invS 255).2
theorem invS_255 : (invS 255).2 = invL := rfl
def yk (x : Nat) : Nat → Nat
 | 0 => x
 | k + 1 => yk x k ^^^ ((x * 2 ^ (k + 1)) &&& 255 ||| x / 2 ^ (8 - (k + 1)))
theorem yk_lt {x : Nat} (hx : x < 256) (k : Nat) : yk x k < 256 := by
 induction k with
 | zero => exact hx
 | succ k ih => exact xor_lt ih (Nat.or_lt_two_pow (n := 8) (Nat.and_lt_two_pow _ (by decide)) (Nat.lt_of_le_of_lt (Nat.div_le_self _ _) hx))
theorem shl_le {x k : Nat} (hx : x < 256) (hk : k < 4) : x * 2 ^ (k + 1) ≤ 4096 := by
 have : 2 ^ (k + 1) ≤ 2 ^ 4 := Nat.pow_le_pow_right (by omega) (by omega)
 exact Nat.le_trans (Nat.mul_le_mul (Nat.le_of_lt hx) this) (Nat.le_refl 4096)
def othT : Nat → List Nat
 | 0 => List.replicate 256 0
 | i + 1 => (othT i).set i (yk (invL.getD i 0) 4 ^^^ 99)
theorem othT_zero : othT 0 = List.replicate 256 0 := rfl
theorem othT_succ (i : Nat) : othT (i + 1) = (othT i).set i (yk (invL.getD i 0) 4 ^^^ 99) := rfl
theorem othT_len (i : Nat) : (othT i).length = 256 := by induction i with
 | zero => exact List.length_replicate
 | succ i ih => rw [othT, List.length_set, ih]
theorem others_ok {w0 : World} :
  Calls Tryd.prog 94 #[] w0 fun e w' => e = .returned (.agg ((othT 256).map vI).toArray) ∧ Ext w0 w' := by
 refine calls_start 49 Tryd.func94 rfl Tryd.ntmps94 rfl fun a hF => ?_
 have hS := St.refl w0
 refine wK fun Kq1 hKq1 => ?_
 refine wR ?_
 refine wpList_stp (stp_alloc hF (wanted_none rfl) rfl rfl rfl Tryd.zv160 rfl hS fun res a w hF hS => ?_)
 refine wN ?_
 refine tN (hKq1 _ _ ?_)
 refine wK fun Kq2 hKq2 => ?_
 refine wR ?_
 refine wpList_stp (stp_alloc hF (wanted_none rfl) rfl rfl rfl Tryd.zv160 rfl hS fun t a w hF hS => ?_)
 refine wN ?_
 refine tN (hKq2 _ _ ?_)
 refine wK fun Kq3 hKq3 => ?_
 refine wR ?_
 refine wpList_stp (stp_alloc hF (wanted_none rfl) rfl rfl rfl Tryd.zv160 rfl hS fun inv a w hF hS => ?_)
 refine wN ?_
 refine tN (hKq3 _ _ ?_)
 refine wK fun Kq4 hKq4 => ?_
 refine wR ?_
 refine wg hF rfl rfl rfl (gv_assign rfl (ev_const _ _)) fun a hF => ?_
 refine wg hF rfl rfl rfl (gv_assign rfl (ev_const _ _)) fun a hF => ?_
 refine wN ?_
 refine tN (hKq4 _ _ ?_)
 refine wK fun Kq5 hKq5 => ?_
 refine wK fun Kq6 hKq6 => ?_
 refine wR ?_
 refine wg hF rfl rfl rfl (gv_assign rfl (ev_const _ _)) fun a hF => ?_
 refine wN ?_
 refine tN (hKq6 _ _ ?_)
 refine wp_block ?_
 refine wp_loop_n (fun n a w => ∃ i, i ≤ 255 ∧ n = 255 - i ∧ Fr 49 a [(0, .pointer (some ⟨res, 0, none⟩)), (1, .pointer (some ⟨t, 0, none⟩)), (2, .pointer (some ⟨inv, 0, none⟩)), (3, vI (invS i).1.1), (4, vI (invS i).1.2), (5, vI i)] ∧ St w0 w [⟨true, some inv, blkN 160 ((invS i).2)⟩, ⟨true, some t, blkN 160 (List.replicate 256 0)⟩, ⟨true, some res, blkN 160 (List.replicate 256 0)⟩]) 255 ⟨0, by omega, by omega, hF.sub ⟨rfl, rfl, rfl, rfl, rfl, rfl, trivial⟩, hS⟩ ?_
 rintro n a w ⟨i, hi, hn, hF, hS⟩
 obtain ⟨hp, hq, hl, _⟩ := invS_ok i
 refine wK fun Kq7 hKq7 => ?_
 refine wK fun Kq8 hKq8 => ?_
 refine wR ?_
 refine wg hF rfl rfl rfl (gv_move rfl (hF.t rfl)) fun a hF => ?_
 refine wg hF rfl rfl rfl (gv_lss rfl (hF.t rfl) (ev_const _ _)) fun a hF => ?_
 refine wN ?_
 refine tN (hKq8 _ _ ?_)
 refine cond_dec (hF.t rfl) (fun hc11 => ?_) (fun hc11 => ?_)
 ·
  refine wp_skip ?_
  refine tN (hKq7 _ _ ?_)
  refine wK fun Kq9 hKq9 => ?_
  refine wp_block ?_
  refine wK fun Kq10 hKq10 => ?_
  refine wR ?_
  refine wg hF rfl rfl rfl (gv_move rfl (hF.t rfl)) fun a hF => ?_
  refine wg hF rfl rfl rfl (gv_move rfl (hF.t rfl)) fun a hF => ?_
  refine wg hF rfl rfl rfl (gv_indexArr rfl u160 z3 (hF.t rfl) (hF.t rfl) (by omega)) fun a hF => ?_
  refine wpList_stp (stp_storeN ((invS i).1.1) hF (wanted_none rfl) rfl rfl z3 (hF.t rfl) (by omega) (hF.t rfl) hS (k := 0) rfl (by omega) fun w hS => ?_)
  refine wN ?_
  refine tN (hKq10 _ _ ?_)
  refine wK fun Kq11 hKq11 => ?_
  refine wR ?_
  refine wg hF rfl rfl rfl (gv_move rfl (hF.t rfl)) fun a hF => ?_
  refine wpList_stp (stp_call hF (wanted_none rfl) rfl rfl Tryd.ok95 rfl (Evs.cons (hF.t rfl) (Evs.cons (ev_const _ _) Evs.nil)) (times_ok hp (by decide)) fun e w h => ?_)
  obtain ⟨rfl, hx⟩ := h
  refine ⟨_, rfl, fun a hF => ?_⟩
  replace hS := hS.ext hx
  clear hx
  refine wg hF rfl rfl rfl (gv_assign rfl (hF.t rfl)) fun a hF => ?_
  refine wN ?_
  refine tN (hKq11 _ _ ?_)
  refine wR ?_
  refine wg hF rfl rfl rfl (gv_move rfl (hF.t rfl)) fun a hF => ?_
  refine wpList_stp (stp_call hF (wanted_none rfl) rfl rfl Tryd.ok95 rfl (Evs.cons (hF.t rfl) (Evs.cons (ev_const _ _) Evs.nil)) (times_ok hq (by decide)) fun e w h => ?_)
  obtain ⟨rfl, hx⟩ := h
  refine ⟨_, rfl, fun a hF => ?_⟩
  replace hS := hS.ext hx
  clear hx
  refine wg hF rfl rfl rfl (gv_assign rfl (hF.t rfl)) fun a hF => ?_
  refine wN ?_
  refine block_normal ?_
  refine tN (hKq9 _ _ ?_)
  refine wR ?_
  refine wg hF rfl rfl rfl (gv_move rfl (hF.t rfl)) fun a hF => ?_
  refine wg hF rfl rfl rfl (gv_nadd (n := 1) rfl (hF.t rfl) rfl (by omega)) fun a hF => ?_
  refine wg hF rfl rfl rfl (gv_assign rfl (hF.t rfl)) fun a hF => ?_
  refine wN ?_
  refine then_normal ?_
  exact ⟨n - 1, by omega, i + 1, by omega, by omega, hF.sub ⟨rfl, rfl, rfl, rfl, rfl, rfl, trivial⟩, hS⟩
 ·
  refine wp_exit ?_
  refine then_exit ?_
  refine then_exit ?_
  refine block_exit ?_
  refine tN (hKq5 _ _ ?_)
  refine wK fun Kq12 hKq12 => ?_
  refine wK fun Kq13 hKq13 => ?_
  refine wR ?_
  refine wg hF rfl rfl rfl (gv_assign rfl (ev_const _ _)) fun a hF => ?_
  refine wN ?_
  refine tN (hKq13 _ _ ?_)
  refine wp_block ?_
  obtain rfl : i = 255 := by omega
  have hil : invL.length = 256 := (invS_ok 255).2.2.1
  rw [invS_255] at hS
  rw [← othT_zero] at hS
  refine wp_loop_n (fun n a w => ∃ i, i ≤ 256 ∧ n = 256 - i ∧ Fr 49 a [(0, .pointer (some ⟨res, 0, none⟩)), (1, .pointer (some ⟨t, 0, none⟩)), (2, .pointer (some ⟨inv, 0, none⟩)), (6, vI i)] ∧ St w0 w [⟨true, some inv, blkN 160 (invL)⟩, ⟨true, some t, blkN 160 (othT i)⟩, ⟨true, some res, blkN 160 (othT 0)⟩]) 256 ⟨0, by omega, by omega, hF.sub ⟨rfl, rfl, rfl, rfl, trivial⟩, hS⟩ ?_
  rintro n a w ⟨i, hi, hn, hF, hS⟩
  have hxi : invL.getD i 0 < 256 := getD_lt (invS_ok 255).2.2.2 i
  refine wK fun Kq14 hKq14 => ?_
  refine wK fun Kq15 hKq15 => ?_
  refine wR ?_
  refine wg hF rfl rfl rfl (gv_move rfl (hF.t rfl)) fun a hF => ?_
  refine wg hF rfl rfl rfl (gv_lss rfl (hF.t rfl) (ev_const _ _)) fun a hF => ?_
  refine wN ?_
  refine tN (hKq15 _ _ ?_)
  refine cond_dec (hF.t rfl) (fun hc22 => ?_) (fun hc22 => ?_)
  ·
   refine wp_skip ?_
   refine tN (hKq14 _ _ ?_)
   refine wK fun Kq16 hKq16 => ?_
   refine wp_block ?_
   refine wK fun Kq17 hKq17 => ?_
   refine wR ?_
   refine wg hF rfl rfl rfl (gv_move rfl (hF.t rfl)) fun a hF => ?_
   refine wg hF rfl rfl rfl (gv_indexArr rfl u160 z3 (hF.t rfl) (hF.t rfl) (by omega)) fun a hF => ?_
   refine wg hF rfl rfl rfl (gv_load rfl u3 rfl (hF.t rfl) (cell_ix (hS.cellN (k := 0) rfl (i) (by omega)) (by omega))) fun a hF => ?_
   refine wg hF rfl rfl rfl (gv_assign rfl (hF.t rfl)) fun a hF => ?_
   refine wN ?_
   refine tN (hKq17 _ _ ?_)
   refine wK fun Kq18 hKq18 => ?_
   refine wR ?_
   refine wg hF rfl rfl rfl (gv_move rfl (hF.t rfl)) fun a hF => ?_
   refine wg hF rfl rfl rfl (gv_assign rfl (hF.t rfl)) fun a hF => ?_
   refine wN ?_
   refine tN (hKq18 _ _ ?_)
   refine wK fun Kq19 hKq19 => ?_
   refine wK fun Kq20 hKq20 => ?_
   refine wR ?_
   refine wg hF rfl rfl rfl (gv_assign rfl (ev_const _ _)) fun a hF => ?_
   refine wN ?_
   refine tN (hKq20 _ _ ?_)
   refine wp_block ?_
   refine wp_loop_n (fun q a w => ∃ k, k ≤ 4 ∧ q = 4 - k ∧ Fr 49 a [(0, .pointer (some ⟨res, 0, none⟩)), (1, .pointer (some ⟨t, 0, none⟩)), (2, .pointer (some ⟨inv, 0, none⟩)), (6, vI i), (7, vI (invL.getD i 0)), (8, vI (yk (invL.getD i 0) k)), (9, vI (k + 1))] ∧ St w0 w [⟨true, some inv, blkN 160 (invL)⟩, ⟨true, some t, blkN 160 (othT i)⟩, ⟨true, some res, blkN 160 (othT 0)⟩]) 4 ⟨0, by omega, by omega, hF.sub ⟨rfl, rfl, rfl, rfl, rfl, rfl, rfl, trivial⟩, hS⟩ ?_
   rintro q a w ⟨k, hk, hq, hF, hS⟩
   refine wK fun Kq21 hKq21 => ?_
   refine wK fun Kq22 hKq22 => ?_
   refine wR ?_
   refine wg hF rfl rfl rfl (gv_move rfl (hF.t rfl)) fun a hF => ?_
   refine wg hF rfl rfl rfl (gv_lss rfl (hF.t rfl) (ev_const _ _)) fun a hF => ?_
   refine wN ?_
   refine tN (hKq22 _ _ ?_)
   refine cond_dec (hF.t rfl) (fun hc30 => ?_) (fun hc30 => ?_)
   ·
    refine wp_skip ?_
    refine tN (hKq21 _ _ ?_)
    refine wK fun Kq23 hKq23 => ?_
    refine wp_block ?_
    refine Fw.wp_region_draw (by kernel_rfl) fun w hx => ?_
    replace hS := hS.ext hx
    clear hx
    refine run_head0 (n := 11) _ hF (by kernel_rfl) rfl ?_
    refine dg hF rfl rfl rfl rfl (fun w hx => gv_move rfl (hF.t rfl)) fun a hF => ?_
    refine dg hF rfl rfl rfl rfl (fun w hx => gv_move rfl (hF.t rfl)) fun a hF => ?_
    refine dg hF rfl rfl rfl rfl (fun w hx => gv_move rfl (hF.t rfl)) fun a hF => ?_
    refine dg hF rfl rfl rfl rfl (fun w hx => gv_n_shl (n := k + 1) rfl (hF.t rfl) (hF.t rfl) (by omega) (by have := shl_le hxi (k := k) (by omega); omega)) fun a hF => ?_
    refine dg hF rfl rfl rfl rfl (fun w hx => gv_n_and (n := 255) rfl (hF.t rfl) rfl (by have := shl_le hxi (k := k) (by omega); omega) (by omega)) fun a hF => ?_
    refine dg hF rfl rfl rfl rfl (fun w hx => gv_move rfl (hF.t rfl)) fun a hF => ?_
    refine dg hF rfl rfl rfl rfl (fun w hx => gv_move rfl (hF.t rfl)) fun a hF => ?_
    refine dg hF rfl rfl rfl rfl (fun w hx => gv_nsub (m := 8) rfl rfl (hF.t rfl) (by omega) (by omega)) fun a hF => ?_
    refine dg hF rfl rfl rfl rfl (fun w hx => gv_n_shr (n := 8 - (k + 1)) rfl (hF.t rfl) (hF.t rfl) (by omega)) fun a hF => ?_
    refine dg hF rfl rfl rfl rfl (fun w hx => gv_n_or rfl (hF.t rfl) (hF.t rfl) (Nat.lt_of_le_of_lt Nat.and_le_right (by omega)) (Nat.lt_of_le_of_lt (Nat.div_le_self _ _) (by omega))) fun a hF => ?_
    refine dg hF rfl rfl rfl rfl (fun w hx => gv_n_xor rfl (hF.t rfl) (hF.t rfl) (by have := yk_lt hxi k; omega) (by have : _ < _ := Nat.or_lt_two_pow (n := 8) (Nat.and_lt_two_pow (invL.getD i 0 * 2 ^ (k + 1)) (by decide : 255 < 2 ^ 8)) (Nat.lt_of_le_of_lt (Nat.div_le_self (invL.getD i 0) (2 ^ (8 - (k + 1)))) hxi); omega)) fun a hF => ?_
    refine dw_nil fun a w hA hx => ?_
    replace hF := hA _ hF
    replace hS := hS.ext hx
    clear hA hx
    refine run_stp (by kernel_rfl) rfl (stp_gv hF (wanted_none rfl) rfl rfl (gv_assign rfl (hF.t rfl)) fun a hF => ?_)
    refine run_done (by decide) ?_
    refine block_normal ?_
    refine tN (hKq23 _ _ ?_)
    refine wR ?_
    refine wg hF rfl rfl rfl (gv_move rfl (hF.t rfl)) fun a hF => ?_
    refine wg hF rfl rfl rfl (gv_nadd (n := 1) rfl (hF.t rfl) rfl (by omega)) fun a hF => ?_
    refine wg hF rfl rfl rfl (gv_assign rfl (hF.t rfl)) fun a hF => ?_
    refine wN ?_
    refine then_normal ?_
    exact ⟨q - 1, by omega, k + 1, by omega, by omega, hF.sub ⟨rfl, rfl, rfl, rfl, rfl, rfl, rfl, trivial⟩, hS⟩
   ·
    refine wp_exit ?_
    refine then_exit ?_
    refine then_exit ?_
    refine block_exit ?_
    refine tN (hKq19 _ _ ?_)
    obtain rfl : k = 4 := by omega
    refine wR ?_
    refine wg hF rfl rfl rfl (gv_move rfl (hF.t rfl)) fun a hF => ?_
    refine wg hF rfl rfl rfl (gv_move rfl (hF.t rfl)) fun a hF => ?_
    refine wg hF rfl rfl rfl (gv_n_xor (n := 99) rfl (hF.t rfl) rfl (by have := yk_lt hxi 4; omega) (by omega)) fun a hF => ?_
    refine wg hF rfl rfl rfl (gv_indexArr rfl u160 z3 (hF.t rfl) (hF.t rfl) (by omega)) fun a hF => ?_
    refine wpList_stp (stp_storeN (i) hF (wanted_none rfl) rfl rfl z3 (hF.t rfl) (by omega) (hF.t rfl) hS (k := 1) rfl (by rw [othT_len]; omega) fun w hS => ?_)
    refine wN ?_
    refine block_normal ?_
    refine tN (hKq16 _ _ ?_)
    refine wR ?_
    refine wg hF rfl rfl rfl (gv_move rfl (hF.t rfl)) fun a hF => ?_
    refine wg hF rfl rfl rfl (gv_nadd (n := 1) rfl (hF.t rfl) rfl (by omega)) fun a hF => ?_
    refine wg hF rfl rfl rfl (gv_assign rfl (hF.t rfl)) fun a hF => ?_
    refine wN ?_
    refine then_normal ?_
    exact ⟨n - 1, by omega, i + 1, by omega, by omega, hF.sub ⟨rfl, rfl, rfl, rfl, trivial⟩, by rw [othT_succ]; exact hS⟩
  ·
   refine wp_exit ?_
   refine then_exit ?_
   refine then_exit ?_
   refine block_exit ?_
   refine tN (hKq12 _ _ ?_)
   refine wK fun Kq24 hKq24 => ?_
   obtain rfl : i = 256 := by omega
   refine wR ?_
   refine wg hF rfl rfl rfl (gv_loadAll rfl u160 rfl (z160.trans (congrArg some (by simp [othT_len]))) (hF.t rfl) hS (k := 1) rfl) fun a hF => ?_
   refine wpList_stp (stp_storeAll hF (wanted_none rfl) rfl rfl (z160.trans (congrArg some (by simp [othT_len]))) (hF.t rfl) (hF.t rfl) (one_N _) hS (k := 2) rfl (by simp [othT_len]) fun w hS => ?_)
   refine wN ?_
   refine tN (hKq24 _ _ ?_)
   refine wp_ret ?_
   refine retCell (fn := Tryd.f94) hF rfl u160 rfl (z160.trans (congrArg some (by simp [othT_len]))) rfl hS (k := 2) rfl ⟨rfl, hS.toExt (by simp)⟩
end Go.Proofs.YtfhalnobaeogkaaDoor
set_option linter.unusedVariables false
set_option linter.unusedSimpArgs false
namespace Go.Proofs.YtfhalnobaeogkaaDoor
open Go Go.RowKit Go.Fw
theorem tm2 : ∀ n, n < 256 → tms 2 n = (dbl (UInt8.ofNat n)).toNat := by decide +kernel
theorem tm3 : ∀ n, n < 256 → tms 3 n = (dbl (UInt8.ofNat n) ^^^ UInt8.ofNat n).toNat := by decide +kernel
theorem tmr2 : ∀ n, n < 256 → tms n 2 = (dbl (UInt8.ofNat n)).toNat := by decide +kernel
theorem times2 {x : UInt8} {w0 : World} : Calls Tryd.prog 95 #[vI 2, vN x] w0 fun e w' => e = .returned (vN (dbl x)) ∧ Ext w0 w' := by
 have := times_ok (w0 := w0) (a0 := 2) (b0 := x.toNat) (by decide) x.toNat_lt
 rwa [tm2 _ x.toNat_lt, UInt8.ofNat_toNat] at this
theorem times3 {x : UInt8} {w0 : World} : Calls Tryd.prog 95 #[vI 3, vN x] w0 fun e w' => e = .returned (vN (dbl x ^^^ x)) ∧ Ext w0 w' := by
 have := times_ok (w0 := w0) (a0 := 3) (b0 := x.toNat) (by decide) x.toNat_lt
 rwa [tm3 _ x.toNat_lt, UInt8.ofNat_toNat] at this
theorem timesr2 {x : UInt8} {w0 : World} : Calls Tryd.prog 95 #[vN x, vI 2] w0 fun e w' => e = .returned (vN (dbl x)) ∧ Ext w0 w' := by
 have := times_ok (w0 := w0) (a0 := x.toNat) (b0 := 2) x.toNat_lt (by decide)
 rwa [tmr2 _ x.toNat_lt, UInt8.ofNat_toNat] at this
def invA : Nat → Nat → Nat → List Nat → List Nat
 | 0, _, _, t => t
 | n + 1, p, q, t => invA n (tms p 3) (tms q 246) (t.set p q)
theorem invA_eq : ∀ n i, invA n (invS i).1.1 (invS i).1.2 (invS i).2 = (invS (i + n)).2
 | 0, i => rfl
 | n + 1, i => by rw [invA, show i + (n + 1) = (i + 1) + n by omega, ← invA_eq n (i + 1)]; rfl
def othA : Nat → Nat → List Nat → List Nat
 | 0, _, _ => []
 | n + 1, i, l => (yk (l.getD i 0) 4 ^^^ 99) :: othA n (i + 1) l
set_option maxRecDepth 100000 in
theorem othA_swap : othA 256 0 (invA 255 1 1 (List.replicate 256 0)) = swapL.map UInt8.toNat := by decide +kernel
theorem othA_eq (l : List Nat) : ∀ n i, othA n i l = (List.range' i n).map fun i => yk (l.getD i 0) 4 ^^^ 99
 | 0, i => rfl
 | n + 1, i => by rw [othA, othA_eq l n (i + 1), List.range'_succ]; rfl
theorem setTo {α : Type} {g : Nat → List α} {f : Nat → α} (hs : ∀ i, g (i + 1) = (g i).set i (f i)) : ∀ i, i ≤ (g 0).length → g i = (List.range i).map f ++ (g 0).drop i
 | 0, _ => by simp
 | i + 1, h => by
  rw [hs, setTo hs i (by omega), List.set_append, if_neg (by simp), List.range_succ, List.map_append, List.length_map, List.length_range, Nat.sub_self, List.append_assoc]
  congr 1
  rw [List.drop_eq_getElem_cons (by omega), List.set_cons_zero]; rfl
theorem setAll {α : Type} {g : Nat → List α} {f : Nat → α} (hs : ∀ i, g (i + 1) = (g i).set i (f i)) {n : Nat} (h : (g 0).length = n) : g n = (List.range n).map f := by
 rw [setTo hs n (by omega), List.drop_eq_nil_of_le (by omega), List.append_nil]
theorem oth_swap : othT 256 = swapL.map UInt8.toNat := by
 rw [setAll (f := fun i => yk (invL.getD i 0) 4 ^^^ 99) othT_succ (by rw [othT_len]), List.range_eq_range', ← othA_eq, ← othA_swap]
 have : invL = invA 255 1 1 (List.replicate 256 0) := by
  have h := invA_eq 255 0
  rw [Nat.zero_add] at h
  exact h.symm
 rw [this]
theorem others_any (w0 : World) : Calls Tryd.prog 94 #[] w0 fun e w' => e = .returned (.agg (swapL.map vN).toArray) ∧ Ext w0 w' := by
 have := others_ok (w0 := w0)
 rwa [oth_swap, List.map_map] at this
def wnew (kl W : List UInt8) (i k : Nat) : UInt8 := if i < 4 then kl.getD (4 * i + k) 0 else if 0 < i % 4 then W.getD ((i - 4) * 4 + k) 0 ^^^ W.getD ((i - 1) * 4 + k) 0 else W.getD ((i - 4) * 4 + k) 0 ^^^ sb (W.getD ((i - 1) * 4 + (k + 1) % 4) 0)
def win (kl W : List UInt8) (i : Nat) : Nat → List UInt8
 | 0 => W
 | k + 1 => (win kl W i k).set (i * 4 + k) (wnew kl (win kl W i k) i k)
theorem win_len (kl W : List UInt8) (i k : Nat) : (win kl W i k).length = W.length := by induction k with
 | zero => rfl
 | succ k ih => rw [win, List.length_set, ih]
def wrow (kl : List UInt8) (i : Nat) (s : List UInt8 × UInt8) : List UInt8 × UInt8 :=
 if 4 ≤ i ∧ i % 4 = 0 then ((win kl s.1 i 4).set (i * 4) ((win kl s.1 i 4).getD (i * 4) 0 ^^^ s.2), dbl s.2) else (win kl s.1 i 4, s.2)
theorem wrow_len (kl : List UInt8) (i : Nat) (s : List UInt8 × UInt8) : (wrow kl i s).1.length = s.1.length := by unfold wrow; split <;> simp [win_len]
def wst (kl : List UInt8) : Nat → List UInt8 × UInt8
 | 0 => (List.replicate 176 0, 1)
 | i + 1 => wrow kl i (wst kl i)
theorem wst_zero (kl : List UInt8) : wst kl 0 = (List.replicate 176 0, 1) := rfl
theorem wst_succ (kl : List UInt8) (i : Nat) : wst kl (i + 1) = wrow kl i (wst kl i) := rfl
theorem wst_len (kl : List UInt8) (i : Nat) : (wst kl i).1.length = 176 := by induction i with
 | zero => exact List.length_replicate
 | succ i ih => rw [wst_succ, wrow_len, ih]
def wks (kl : List UInt8) : List UInt8 := (wst kl 44).1
theorem wks_def (kl : List UInt8) : (wst kl 44).1 = wks kl := rfl
theorem wks_len (kl : List UInt8) : (wks kl).length = 176 := wst_len kl 44
def s0 (W bl : List UInt8) : Nat → List UInt8
 | 0 => List.replicate 16 0
 | i + 1 => (s0 W bl i).set i (bl.getD i 0 ^^^ W.getD (i / 4 * 4 + i % 4) 0)
theorem s0_len (W bl : List UInt8) (i : Nat) : (s0 W bl i).length = 16 := by induction i with
 | zero => exact List.length_replicate
 | succ i ih => rw [s0, List.length_set, ih]
def uu (s : List UInt8) : Nat → List UInt8
 | 0 => List.replicate 16 0
 | i + 1 => (uu s i).set i (sb (s.getD ((i + 4 * (i % 4)) % 16) 0))
theorem uu_len (s : List UInt8) (i : Nat) : (uu s i).length = 16 := by induction i with
 | zero => exact List.length_replicate
 | succ i ih => rw [uu, List.length_set, ih]
def mxv (r : Nat) (u : List UInt8) (i : Nat) : UInt8 := if r < 10 then dbl (u.getD i 0) ^^^ (dbl (u.getD (i - i % 4 + (i + 1) % 4) 0) ^^^ u.getD (i - i % 4 + (i + 1) % 4) 0) ^^^ u.getD (i - i % 4 + (i + 2) % 4) 0 ^^^ u.getD (i - i % 4 + (i + 3) % 4) 0 else u.getD i 0
def vv (W : List UInt8) (r : Nat) (u : List UInt8) : Nat → List UInt8
 | 0 => List.replicate 16 0
 | i + 1 => (vv W r u i).set i (mxv r u i ^^^ W.getD ((4 * r + i / 4) * 4 + i % 4) 0)
theorem vv_len (W : List UInt8) (r : Nat) (u : List UInt8) (i : Nat) : (vv W r u i).length = 16 := by induction i with
 | zero => exact List.length_replicate
 | succ i ih => rw [vv, List.length_set, ih]
theorem vv_succ (W : List UInt8) (r : Nat) (u : List UInt8) (i : Nat) : vv W r u (i + 1) = (vv W r u i).set i (mxv r u i ^^^ W.getD ((4 * r + i / 4) * 4 + i % 4) 0) := rfl
def rS (W bl : List UInt8) : Nat → List UInt8
 | 0 => s0 W bl 16
 | r + 1 => vv W (r + 1) (uu (rS W bl r) 16) 16
theorem rS_zero (W bl : List UInt8) : rS W bl 0 = s0 W bl 16 := rfl
theorem rS_succ (W bl : List UInt8) (r : Nat) : rS W bl (r + 1) = vv W (r + 1) (uu (rS W bl r) 16) 16 := rfl
theorem rS_len (W bl : List UInt8) (r : Nat) : (rS W bl r).length = 16 := by cases r with
 | zero => exact s0_len W bl 16
 | succ r => exact vv_len _ _ _ _
def o16 (s : List UInt8) : Nat → List UInt8
 | 0 => List.replicate 16 0
 | i + 1 => (o16 s i).set i (s.getD i 0)
theorem o16_len (s : List UInt8) (i : Nat) : (o16 s i).length = 16 := by induction i with
 | zero => exact List.length_replicate
 | succ i ih => rw [o16, List.length_set, ih]
theorem set_get {l : List UInt8} {j : Nat} (h : j < l.length) (x : UInt8) : (l.set j x).getD j 0 = x := by
 rw [List.getD_eq_getElem?_getD, List.getElem?_set_self h]; rfl
theorem swn_at (x : UInt8) : (swapL.map vN)[x.toNat]? = some (vN (sb x)) := by
 have h : x.toNat < swapL.length := by rw [swapL_len]; exact x.toNat_lt
 exact map_at (f := vN) h 0
end Go.Proofs.YtfhalnobaeogkaaDoor
set_option linter.unusedVariables false
set_option linter.unusedSimpArgs false
namespace Go.Proofs.YtfhalnobaeogkaaDoor
open Go Go.RowKit Go.Fw
theorem z162 : (Tryd.prog.info? 162).map (·.size) = some 4 := by kernel_rfl
theorem z165 : (Tryd.prog.info? 165).map (·.size) = some 16 := by kernel_rfl
theorem Tryd.zv163 : (Tryd.prog.info? 163).map (·.zero) = some (some (Value.agg ((List.replicate 176 (0 : Nat)).map vI).toArray)) := by kernel_rfl
theorem Tryd.zv165 : (Tryd.prog.info? 165).map (·.zero) = some (some (Value.agg ((List.replicate 16 (0 : Nat)).map vI).toArray)) := by kernel_rfl
theorem Tryd.ok94 : CallOk Tryd.prog 94 := ⟨_, Tryd.func94, by kernel_rfl, by kernel_rfl⟩
set_option maxHeartbeats 1000000 in
theorem rblock_ok {kv : Value} {kl bl : List UInt8} {w0 : World} (hkv : Rd w0 kv (kl.map vB)) (hk : kl.length = 16) (hb : bl.length = 16) :
  Calls Tryd.prog 89 #[kv, .agg (bl.map vB).toArray] w0 fun e w' => e = .returned (.agg ((o16 (rS (wks kl) bl 10) 16).map vB).toArray) ∧ Ext w0 w' := by
 obtain ⟨Ak, ck, rfl, hk1, hk2, hkc⟩ := hkv.isB
 obtain ⟨bk, ok, rfl, hkc⟩ := hkc (by omega)
 rw [hk] at hkv hk1 hkc ⊢
 refine calls_start 214 Tryd.func89 rfl Tryd.ntmps89 rfl fun a hF => ?_
 have hS := St.refl w0
 refine wK fun Kq1 hKq1 => ?_
 refine wR ?_
 refine wpList_stp (stp_box hF (wanted_none rfl) rfl rfl rfl (hF.t rfl) rfl hS fun bb a w hF hS => ?_)
 refine wpList_stp (stp_alloc hF (wanted_none rfl) rfl rfl rfl Tryd.zv129 rfl hS fun res a w hF hS => ?_)
 refine wN ?_
 refine tN (hKq1 _ _ ?_)
 refine wK fun Kq2 hKq2 => ?_
 refine wR ?_
 refine wpList_stp (stp_call hF (wanted_none rfl) rfl rfl Tryd.ok94 rfl Evs.nil (others_any _) fun e w h => ?_)
 obtain ⟨rfl, hx⟩ := h
 refine ⟨_, rfl, fun a hF => ?_⟩
 replace hS := hS.ext hx
 clear hx
 refine wpList_stp (stp_alloc hF (wanted_none rfl) rfl rfl rfl Tryd.zv160 rfl hS fun t a w hF hS => ?_)
 refine wpList_stp (stp_storeAll hF (wanted_none rfl) rfl rfl (z160.trans (congrArg some (by rw [List.length_map, swapL_len]))) (hF.t rfl) (hF.t rfl) (one_M _) hS (k := 0) rfl (by simp only [List.length_map, List.length_replicate, swapL_len]) fun w hS => ?_)
 refine wN ?_
 refine tN (hKq2 _ _ ?_)
 refine wK fun Kq3 hKq3 => ?_
 refine wR ?_
 refine wpList_stp (stp_alloc hF (wanted_none rfl) rfl rfl rfl Tryd.zv163 rfl hS fun ww a w hF hS => ?_)
 rw [rep_blkM] at hS
 refine wN ?_
 refine tN (hKq3 _ _ ?_)
 refine wK fun Kq4 hKq4 => ?_
 refine wR ?_
 refine wg hF rfl rfl rfl (gv_assign rfl (ev_const _ _)) fun a hF => ?_
 refine wN ?_
 refine tN (hKq4 _ _ ?_)
 refine wK fun Kq5 hKq5 => ?_
 refine wK fun Kq6 hKq6 => ?_
 refine wR ?_
 refine wg hF rfl rfl rfl (gv_assign rfl (ev_const _ _)) fun a hF => ?_
 refine wN ?_
 refine tN (hKq6 _ _ ?_)
 refine wp_block ?_
 refine wp_loop_n (fun n a w => ∃ i, i ≤ 44 ∧ n = 44 - i ∧ Fr 214 a [(0, .slice (some ⟨bk, ok, none⟩) 16 ck), (3, .pointer (some ⟨bb, 0, none⟩)), (4, .pointer (some ⟨res, 0, none⟩)), (5, .pointer (some ⟨t, 0, none⟩)), (6, .pointer (some ⟨ww, 0, none⟩)), (7, vN (wst kl i).2), (8, vI i)] ∧ St w0 w [⟨true, some ww, blkM 163 ((wst kl i).1)⟩, ⟨true, some t, blkM 160 swapL⟩, ⟨true, some res, blkB 129 (List.replicate 16 0)⟩, ⟨true, some bb, blkB 129 bl⟩]) 44 ⟨0, by omega, by omega, hF.sub ⟨rfl, rfl, rfl, rfl, rfl, rfl, rfl, trivial⟩, by rw [wst_zero]; exact hS⟩ ?_
 rintro n a w ⟨i, hi, hn, hF, hS⟩
 refine wK fun Kq7 hKq7 => ?_
 refine wK fun Kq8 hKq8 => ?_
 refine wR ?_
 refine wg hF rfl rfl rfl (gv_move rfl (hF.t rfl)) fun a hF => ?_
 refine wg hF rfl rfl rfl (gv_lss rfl (hF.t rfl) (ev_const _ _)) fun a hF => ?_
 refine wN ?_
 refine tN (hKq8 _ _ ?_)
 refine cond_dec (hF.t rfl) (fun hc22 => ?_) (fun hc22 => ?_)
 ·
  refine wp_skip ?_
  refine tN (hKq7 _ _ ?_)
  refine wp_cut (fun a w => Fr 214 a [(0, .slice (some ⟨bk, ok, none⟩) 16 ck), (3, .pointer (some ⟨bb, 0, none⟩)), (4, .pointer (some ⟨res, 0, none⟩)), (5, .pointer (some ⟨t, 0, none⟩)), (6, .pointer (some ⟨ww, 0, none⟩)), (7, vN (wst kl (i + 1)).2), (8, vI i)] ∧ St w0 w [⟨true, some ww, blkM 163 ((wst kl (i + 1)).1)⟩, ⟨true, some t, blkM 160 swapL⟩, ⟨true, some res, blkB 129 (List.replicate 16 0)⟩, ⟨true, some bb, blkB 129 bl⟩]) ?_ ?_
  ·
   refine wp_block ?_
   refine wK fun Kq9 hKq9 => ?_
   refine wK fun Kq10 hKq10 => ?_
   refine wR ?_
   refine wg hF rfl rfl rfl (gv_assign rfl (ev_const _ _)) fun a hF => ?_
   refine wN ?_
   refine tN (hKq10 _ _ ?_)
   refine wp_block ?_
   refine wp_loop_n (fun q a w => ∃ k, k ≤ 4 ∧ q = 4 - k ∧ Fr 214 a [(0, .slice (some ⟨bk, ok, none⟩) 16 ck), (3, .pointer (some ⟨bb, 0, none⟩)), (4, .pointer (some ⟨res, 0, none⟩)), (5, .pointer (some ⟨t, 0, none⟩)), (6, .pointer (some ⟨ww, 0, none⟩)), (7, vN (wst kl i).2), (8, vI i), (9, vI k)] ∧ St w0 w [⟨true, some ww, blkM 163 (win kl (wst kl i).1 i k)⟩, ⟨true, some t, blkM 160 swapL⟩, ⟨true, some res, blkB 129 (List.replicate 16 0)⟩, ⟨true, some bb, blkB 129 bl⟩]) 4 ⟨0, by omega, by omega, hF.sub ⟨rfl, rfl, rfl, rfl, rfl, rfl, rfl, rfl, trivial⟩, hS⟩ ?_
   rintro q a w ⟨k, hk4, hq, hF, hS⟩
   refine wK fun Kq11 hKq11 => ?_
   refine wK fun Kq12 hKq12 => ?_
   refine wR ?_
   refine wg hF rfl rfl rfl (gv_move rfl (hF.t rfl)) fun a hF => ?_
   refine wg hF rfl rfl rfl (gv_lss rfl (hF.t rfl) (ev_const _ _)) fun a hF => ?_
   refine wN ?_
   refine tN (hKq12 _ _ ?_)
   refine cond_dec (hF.t rfl) (fun hc26 => ?_) (fun hc26 => ?_)
   ·
    refine wp_skip ?_
    refine tN (hKq11 _ _ ?_)
    refine wp_cut (fun a w => Fr 214 a [(0, .slice (some ⟨bk, ok, none⟩) 16 ck), (3, .pointer (some ⟨bb, 0, none⟩)), (4, .pointer (some ⟨res, 0, none⟩)), (5, .pointer (some ⟨t, 0, none⟩)), (6, .pointer (some ⟨ww, 0, none⟩)), (7, vN (wst kl i).2), (8, vI i), (9, vI k)] ∧ St w0 w [⟨true, some ww, blkM 163 (win kl (wst kl i).1 i (k + 1))⟩, ⟨true, some t, blkM 160 swapL⟩, ⟨true, some res, blkB 129 (List.replicate 16 0)⟩, ⟨true, some bb, blkB 129 bl⟩]) ?_ ?_
    ·
     refine wp_block ?_
     refine wK fun Kq13 hKq13 => ?_
     refine wR ?_
     refine wg hF rfl rfl rfl (gv_move rfl (hF.t rfl)) fun a hF => ?_
     refine wg hF rfl rfl rfl (gv_lss rfl (hF.t rfl) (ev_const _ _)) fun a hF => ?_
     refine wN ?_
     refine tN (hKq13 _ _ ?_)
     refine cond_dec (hF.t rfl) (fun h30 => ?_) (fun h30 => ?_)
     ·
      refine Fw.wp_region_draw (by kernel_rfl) fun w hx => ?_
      replace hS := hS.ext hx
      clear hx
      refine run_head0 (n := 12) _ hF (by kernel_rfl) rfl ?_
      refine dg hF rfl rfl rfl rfl (fun w hx => gv_move rfl (hF.t rfl)) fun a hF => ?_
      refine dg hF rfl rfl rfl rfl (fun w hx => gv_move rfl (hF.t rfl)) fun a hF => ?_
      refine dg hF rfl rfl rfl rfl (fun w hx => gv_move rfl (hF.t rfl)) fun a hF => ?_
      refine dg hF rfl rfl rfl rfl (fun w hx => gv_move rfl (hF.t rfl)) fun a hF => ?_
      refine dg hF rfl rfl rfl rfl (fun w hx => gv_nmul (m := 4) rfl rfl (hF.t rfl) (by omega)) fun a hF => ?_
      refine dg hF rfl rfl rfl rfl (fun w hx => gv_move rfl (hF.t rfl)) fun a hF => ?_
      refine dg hF rfl rfl rfl rfl (fun w hx => gv_nadd rfl (hF.t rfl) (hF.t rfl) (by omega)) fun a hF => ?_
      refine dg hF rfl rfl rfl rfl (fun w hx => gv_indexSl rfl u22 z5 (hF.t rfl) (hF.t rfl) (by omega)) fun a hF => ?_
      refine dg hF rfl rfl rfl rfl (fun w hx => gv_load rfl u5 rfl (hF.t rfl) (cell_ix ((hkv.ext (((hS.ext hx)).toExt (by simp))).cellB (4 * i + k) (by omega)) (by omega))) fun a hF => ?_
      refine dg hF rfl rfl rfl rfl (fun w hx => gv_conv_b_i rfl u5 u3 (hF.t rfl)) fun a hF => ?_
      refine dg hF rfl rfl rfl rfl (fun w hx => gv_indexArr rfl u163 z162 (hF.t rfl) (hF.t rfl) (by omega)) fun a hF => ?_
      refine dg hF rfl rfl rfl rfl (fun w hx => gv_indexArr rfl u162 z3 (hF.t rfl) (hF.t rfl) (by omega)) fun a hF => ?_
      refine dw_nil fun a w hA hx => ?_
      replace hF := hA _ hF
      replace hS := hS.ext hx
      clear hA hx
      refine run_stp (by kernel_rfl) rfl (stp_storeM (i * 4 + k) hF (wanted_none rfl) rfl rfl z3 (hF.t rfl) (by omega) (hF.t rfl) hS (k := 0) rfl (by rw [win_len, wst_len]; omega) fun w hS => ?_)
      refine run_done (by decide) ?_
      refine block_normal ?_
      refine then_normal ?_
      exact ⟨hF.sub ⟨rfl, rfl, rfl, rfl, rfl, rfl, rfl, rfl, trivial⟩, by rw [win, wnew, if_pos (by omega)]; exact hS⟩
     ·
      refine wK fun Kq14 hKq14 => ?_
      refine wR ?_
      refine wg hF rfl rfl rfl (gv_move rfl (hF.t rfl)) fun a hF => ?_
      refine wg hF rfl rfl rfl (gv_nrem (n := 4) rfl (hF.t rfl) rfl (by omega)) fun a hF => ?_
      refine wg hF rfl rfl rfl (gv_gtr rfl (hF.t rfl) (ev_const _ _)) fun a hF => ?_
      refine wN ?_
      refine tN (hKq14 _ _ ?_)
      refine cond_dec (hF.t rfl) (fun h45 => ?_) (fun h45 => ?_)
      ·
       refine Fw.wp_region_draw (by kernel_rfl) fun w hx => ?_
       replace hS := hS.ext hx
       clear hx
       refine run_head0 (n := 17) _ hF (by kernel_rfl) rfl ?_
       refine dg hF rfl rfl rfl rfl (fun w hx => gv_move rfl (hF.t rfl)) fun a hF => ?_
       refine dg hF rfl rfl rfl rfl (fun w hx => gv_move rfl (hF.t rfl)) fun a hF => ?_
       refine dg hF rfl rfl rfl rfl (fun w hx => gv_move rfl (hF.t rfl)) fun a hF => ?_
       refine dg hF rfl rfl rfl rfl (fun w hx => gv_nsub (n := 4) rfl (hF.t rfl) rfl (by omega) (by omega)) fun a hF => ?_
       refine dg hF rfl rfl rfl rfl (fun w hx => gv_move rfl (hF.t rfl)) fun a hF => ?_
       refine dg hF rfl rfl rfl rfl (fun w hx => gv_indexArr rfl u163 z162 (hF.t rfl) (hF.t rfl) (by omega)) fun a hF => ?_
       refine dg hF rfl rfl rfl rfl (fun w hx => gv_indexArr rfl u162 z3 (hF.t rfl) (hF.t rfl) (by omega)) fun a hF => ?_
       refine dg hF rfl rfl rfl rfl (fun w hx => gv_load rfl u3 rfl (hF.t rfl) (cell_ix ((hS.ext hx).cellM (k := 0) rfl ((i - 4) * 4 + k) (by rw [win_len, wst_len]; omega)) (by omega))) fun a hF => ?_
       refine dg hF rfl rfl rfl rfl (fun w hx => gv_move rfl (hF.t rfl)) fun a hF => ?_
       refine dg hF rfl rfl rfl rfl (fun w hx => gv_nsub (n := 1) rfl (hF.t rfl) rfl (by omega) (by omega)) fun a hF => ?_
       refine dg hF rfl rfl rfl rfl (fun w hx => gv_move rfl (hF.t rfl)) fun a hF => ?_
       refine dg hF rfl rfl rfl rfl (fun w hx => gv_indexArr rfl u163 z162 (hF.t rfl) (hF.t rfl) (by omega)) fun a hF => ?_
       refine dg hF rfl rfl rfl rfl (fun w hx => gv_indexArr rfl u162 z3 (hF.t rfl) (hF.t rfl) (by omega)) fun a hF => ?_
       refine dg hF rfl rfl rfl rfl (fun w hx => gv_load rfl u3 rfl (hF.t rfl) (cell_ix ((hS.ext hx).cellM (k := 0) rfl ((i - 1) * 4 + k) (by rw [win_len, wst_len]; omega)) (by omega))) fun a hF => ?_
       refine dg hF rfl rfl rfl rfl (fun w hx => gv_x8 rfl (hF.t rfl) (hF.t rfl)) fun a hF => ?_
       refine dg hF rfl rfl rfl rfl (fun w hx => gv_indexArr rfl u163 z162 (hF.t rfl) (hF.t rfl) (by omega)) fun a hF => ?_
       refine dg hF rfl rfl rfl rfl (fun w hx => gv_indexArr rfl u162 z3 (hF.t rfl) (hF.t rfl) (by omega)) fun a hF => ?_
       refine dw_nil fun a w hA hx => ?_
       replace hF := hA _ hF
       replace hS := hS.ext hx
       clear hA hx
       refine run_stp (by kernel_rfl) rfl (stp_storeM (i * 4 + k) hF (wanted_none rfl) rfl rfl z3 (hF.t rfl) (by omega) (hF.t rfl) hS (k := 0) rfl (by rw [win_len, wst_len]; omega) fun w hS => ?_)
       refine run_done (by decide) ?_
       refine block_normal ?_
       refine then_normal ?_
       exact ⟨hF.sub ⟨rfl, rfl, rfl, rfl, rfl, rfl, rfl, rfl, trivial⟩, by rw [win, wnew, if_neg (by omega), if_pos (by omega)]; exact hS⟩
      ·
       refine Fw.wp_region_draw (by kernel_rfl) fun w hx => ?_
       replace hS := hS.ext hx
       clear hx
       refine run_head0 (n := 21) _ hF (by kernel_rfl) rfl ?_
       refine dg hF rfl rfl rfl rfl (fun w hx => gv_move rfl (hF.t rfl)) fun a hF => ?_
       refine dg hF rfl rfl rfl rfl (fun w hx => gv_move rfl (hF.t rfl)) fun a hF => ?_
       refine dg hF rfl rfl rfl rfl (fun w hx => gv_move rfl (hF.t rfl)) fun a hF => ?_
       refine dg hF rfl rfl rfl rfl (fun w hx => gv_nsub (n := 4) rfl (hF.t rfl) rfl (by omega) (by omega)) fun a hF => ?_
       refine dg hF rfl rfl rfl rfl (fun w hx => gv_move rfl (hF.t rfl)) fun a hF => ?_
       refine dg hF rfl rfl rfl rfl (fun w hx => gv_indexArr rfl u163 z162 (hF.t rfl) (hF.t rfl) (by omega)) fun a hF => ?_
       refine dg hF rfl rfl rfl rfl (fun w hx => gv_indexArr rfl u162 z3 (hF.t rfl) (hF.t rfl) (by omega)) fun a hF => ?_
       refine dg hF rfl rfl rfl rfl (fun w hx => gv_load rfl u3 rfl (hF.t rfl) (cell_ix ((hS.ext hx).cellM (k := 0) rfl ((i - 4) * 4 + k) (by rw [win_len, wst_len]; omega)) (by omega))) fun a hF => ?_
       refine dg hF rfl rfl rfl rfl (fun w hx => gv_move rfl (hF.t rfl)) fun a hF => ?_
       refine dg hF rfl rfl rfl rfl (fun w hx => gv_nsub (n := 1) rfl (hF.t rfl) rfl (by omega) (by omega)) fun a hF => ?_
       refine dg hF rfl rfl rfl rfl (fun w hx => gv_move rfl (hF.t rfl)) fun a hF => ?_
       refine dg hF rfl rfl rfl rfl (fun w hx => gv_nadd (n := 1) rfl (hF.t rfl) rfl (by omega)) fun a hF => ?_
       refine dg hF rfl rfl rfl rfl (fun w hx => gv_nrem (n := 4) rfl (hF.t rfl) rfl (by omega)) fun a hF => ?_
       refine dg hF rfl rfl rfl rfl (fun w hx => gv_indexArr rfl u163 z162 (hF.t rfl) (hF.t rfl) (by omega)) fun a hF => ?_
       refine dg hF rfl rfl rfl rfl (fun w hx => gv_indexArr rfl u162 z3 (hF.t rfl) (hF.t rfl) (by omega)) fun a hF => ?_
       refine dg hF rfl rfl rfl rfl (fun w hx => gv_load rfl u3 rfl (hF.t rfl) (cell_ix ((hS.ext hx).cellM (k := 0) rfl ((i - 1) * 4 + (k + 1) % 4) (by rw [win_len, wst_len]; omega)) (by omega))) fun a hF => ?_
       refine dg hF rfl rfl rfl rfl (fun w hx => gv_indexArr rfl u160 z3 (hF.t rfl) (hF.t rfl) (UInt8.toNat_lt _)) fun a hF => ?_
       refine dg hF rfl rfl rfl rfl (fun w hx => gv_load rfl u3 rfl (hF.t rfl) (cell_ix (j := ((win kl (wst kl i).1 i k).getD ((i - 1) * 4 + (k + 1) % 4) 0).toNat) ((hS.ext hx).cell (k := 1) rfl (swn_at _)) (by omega))) fun a hF => ?_
       refine dg hF rfl rfl rfl rfl (fun w hx => gv_x8 rfl (hF.t rfl) (hF.t rfl)) fun a hF => ?_
       refine dg hF rfl rfl rfl rfl (fun w hx => gv_indexArr rfl u163 z162 (hF.t rfl) (hF.t rfl) (by omega)) fun a hF => ?_
       refine dg hF rfl rfl rfl rfl (fun w hx => gv_indexArr rfl u162 z3 (hF.t rfl) (hF.t rfl) (by omega)) fun a hF => ?_
       refine dw_nil fun a w hA hx => ?_
       replace hF := hA _ hF
       replace hS := hS.ext hx
       clear hA hx
       refine run_stp (by kernel_rfl) rfl (stp_storeM (i * 4 + k) hF (wanted_none rfl) rfl rfl z3 (hF.t rfl) (by omega) (hF.t rfl) hS (k := 0) rfl (by rw [win_len, wst_len]; omega) fun w hS => ?_)
       refine run_done (by decide) ?_
       refine block_normal ?_
       refine then_normal ?_
       exact ⟨hF.sub ⟨rfl, rfl, rfl, rfl, rfl, rfl, rfl, rfl, trivial⟩, by rw [win, wnew, if_neg (by omega), if_neg (by omega)]; exact hS⟩
    ·
     rintro a w ⟨hF, hS⟩
     refine wR ?_
     refine wg hF rfl rfl rfl (gv_move rfl (hF.t rfl)) fun a hF => ?_
     refine wg hF rfl rfl rfl (gv_nadd (n := 1) rfl (hF.t rfl) rfl (by omega)) fun a hF => ?_
     refine wg hF rfl rfl rfl (gv_assign rfl (hF.t rfl)) fun a hF => ?_
     refine wN ?_
     refine then_normal ?_
     exact ⟨q - 1, by omega, k + 1, by omega, by omega, hF.sub ⟨rfl, rfl, rfl, rfl, rfl, rfl, rfl, rfl, trivial⟩, hS⟩
   ·
    refine wp_exit ?_
    refine then_exit ?_
    refine then_exit ?_
    refine block_exit ?_
    refine tN (hKq9 _ _ ?_)
    refine wK fun Kq15 hKq15 => ?_
    obtain rfl : k = 4 := by omega
    refine wR ?_
    refine wg hF rfl rfl rfl (gv_move rfl (hF.t rfl)) fun a hF => ?_
    refine wg hF rfl rfl rfl (gv_geq rfl (hF.t rfl) (ev_const _ _)) fun a hF => ?_
    refine wg hF rfl rfl rfl (gv_move rfl (hF.t rfl)) fun a hF => ?_
    refine wpList_stp (stp_gvG hF rfl rfl rfl rfl rfl (fun hg => gv_move rfl (hF.t rfl)) fun a hF => ?_)
    refine wpList_stp (stp_gvG hF rfl rfl rfl rfl rfl (fun hg => gv_nrem (n := 4) rfl ((hF.t rfl).trans (if_pos hg)) rfl (by omega)) fun a hF => ?_)
    refine wpList_stp (stp_gvG hF rfl rfl rfl rfl rfl (fun hg => gv_eql rfl ((hF.t rfl).trans (if_pos hg)) (ev_const _ _)) fun a hF => ?_)
    refine wg hF rfl rfl rfl (gv_pickAnd rfl (hF.t rfl) (hF.t rfl) (ev_const _ _)) fun a hF => ?_
    refine wN ?_
    refine tN (hKq15 _ _ ?_)
    refine cond_dec (hF.t rfl) (fun h90 => ?_) (fun h90 => ?_)
    ·
     refine wK fun Kq16 hKq16 => ?_
     refine Fw.wp_region_draw (by kernel_rfl) fun w hx => ?_
     replace hS := hS.ext hx
     clear hx
     refine run_head0 (n := 9) _ hF (by kernel_rfl) rfl ?_
     refine dg hF rfl rfl rfl rfl (fun w hx => gv_move rfl (hF.t rfl)) fun a hF => ?_
     refine dg hF rfl rfl rfl rfl (fun w hx => gv_move rfl (hF.t rfl)) fun a hF => ?_
     refine dg hF rfl rfl rfl rfl (fun w hx => gv_indexArr rfl u163 z162 (hF.t rfl) (hF.t rfl) (by omega)) fun a hF => ?_
     refine dg hF rfl rfl rfl rfl (fun w hx => gv_indexArr (q := 0) rfl u162 z3 (hF.t rfl) rfl (by omega)) fun a hF => ?_
     refine dg hF rfl rfl rfl rfl (fun w hx => gv_load rfl u3 rfl (hF.t rfl) (cell_ix ((hS.ext hx).cellM (k := 0) rfl (i * 4) (by rw [win_len, wst_len]; omega)) (by omega))) fun a hF => ?_
     refine dg hF rfl rfl rfl rfl (fun w hx => gv_move rfl (hF.t rfl)) fun a hF => ?_
     refine dg hF rfl rfl rfl rfl (fun w hx => gv_x8 rfl (hF.t rfl) (hF.t rfl)) fun a hF => ?_
     refine dg hF rfl rfl rfl rfl (fun w hx => gv_indexArr rfl u163 z162 (hF.t rfl) (hF.t rfl) (by omega)) fun a hF => ?_
     refine dg hF rfl rfl rfl rfl (fun w hx => gv_indexArr (q := 0) rfl u162 z3 (hF.t rfl) rfl (by omega)) fun a hF => ?_
     refine dw_nil fun a w hA hx => ?_
     replace hF := hA _ hF
     replace hS := hS.ext hx
     clear hA hx
     refine run_stp (by kernel_rfl) rfl (stp_storeM (i * 4) hF (wanted_none rfl) rfl rfl z3 (hF.t rfl) (by omega) (hF.t rfl) hS (k := 0) rfl (by rw [win_len, wst_len]; omega) fun w hS => ?_)
     refine run_done (by decide) ?_
     refine tN (hKq16 _ _ ?_)
     refine wR ?_
     refine wg hF rfl rfl rfl (gv_move rfl (hF.t rfl)) fun a hF => ?_
     refine wpList_stp (stp_call hF (wanted_none rfl) rfl rfl Tryd.ok95 rfl (Evs.cons (hF.t rfl) (Evs.cons (ev_const _ _) Evs.nil)) (timesr2) fun e w h => ?_)
     obtain ⟨rfl, hx⟩ := h
     refine ⟨_, rfl, fun a hF => ?_⟩
     replace hS := hS.ext hx
     clear hx
     refine wg hF rfl rfl rfl (gv_assign rfl (hF.t rfl)) fun a hF => ?_
     refine wN ?_
     refine block_normal ?_
     refine then_normal ?_
     exact ⟨by rw [wst_succ, wrow, if_pos ⟨by omega, by omega⟩]; exact hF.sub ⟨rfl, rfl, rfl, rfl, rfl, rfl, rfl, trivial⟩, by rw [wst_succ, wrow, if_pos ⟨by omega, by omega⟩]; exact hS⟩
    ·
     refine wp_skip ?_
     refine block_normal ?_
     refine then_normal ?_
     have h90n : ¬ (4 ≤ i ∧ i % 4 = 0) := fun h => h90 ⟨by omega, by omega⟩
     exact ⟨by rw [wst_succ, wrow, if_neg h90n]; exact hF.sub ⟨rfl, rfl, rfl, rfl, rfl, rfl, rfl, trivial⟩, by rw [wst_succ, wrow, if_neg h90n]; exact hS⟩
  ·
   rintro a w ⟨hF, hS⟩
   refine wR ?_
   refine wg hF rfl rfl rfl (gv_move rfl (hF.t rfl)) fun a hF => ?_
   refine wg hF rfl rfl rfl (gv_nadd (n := 1) rfl (hF.t rfl) rfl (by omega)) fun a hF => ?_
   refine wg hF rfl rfl rfl (gv_assign rfl (hF.t rfl)) fun a hF => ?_
   refine wN ?_
   refine then_normal ?_
   exact ⟨n - 1, by omega, i + 1, by omega, by omega, hF.sub ⟨rfl, rfl, rfl, rfl, rfl, rfl, rfl, trivial⟩, hS⟩
 ·
  refine wp_exit ?_
  refine then_exit ?_
  refine then_exit ?_
  refine block_exit ?_
  refine tN (hKq5 _ _ ?_)
  refine wK fun Kq17 hKq17 => ?_
  obtain rfl : i = 44 := by omega
  rw [wks_def] at hS
  refine wR ?_
  refine wpList_stp (stp_alloc hF (wanted_none rfl) rfl rfl rfl Tryd.zv165 rfl hS fun ss a w hF hS => ?_)
  rw [rep_blkM] at hS
  refine wN ?_
  refine tN (hKq17 _ _ ?_)
  refine wK fun Kq18 hKq18 => ?_
  refine wK fun Kq19 hKq19 => ?_
  refine wR ?_
  refine wg hF rfl rfl rfl (gv_assign rfl (ev_const _ _)) fun a hF => ?_
  refine wN ?_
  refine tN (hKq19 _ _ ?_)
  refine wp_block ?_
  refine wp_loop_n (fun n a w => ∃ i, i ≤ 16 ∧ n = 16 - i ∧ Fr 214 a [(0, .slice (some ⟨bk, ok, none⟩) 16 ck), (3, .pointer (some ⟨bb, 0, none⟩)), (4, .pointer (some ⟨res, 0, none⟩)), (5, .pointer (some ⟨t, 0, none⟩)), (6, .pointer (some ⟨ww, 0, none⟩)), (10, .pointer (some ⟨ss, 0, none⟩)), (11, vI i)] ∧ St w0 w [⟨true, some ss, blkM 165 (s0 (wks kl) bl i)⟩, ⟨true, some ww, blkM 163 (wks kl)⟩, ⟨true, some t, blkM 160 swapL⟩, ⟨true, some res, blkB 129 (List.replicate 16 0)⟩, ⟨true, some bb, blkB 129 bl⟩]) 16 ⟨0, by omega, by omega, hF.sub ⟨rfl, rfl, rfl, rfl, rfl, rfl, rfl, trivial⟩, hS⟩ ?_
  rintro n a w ⟨i, hi, hn, hF, hS⟩
  refine wK fun Kq20 hKq20 => ?_
  refine wK fun Kq21 hKq21 => ?_
  refine wR ?_
  refine wg hF rfl rfl rfl (gv_move rfl (hF.t rfl)) fun a hF => ?_
  refine wg hF rfl rfl rfl (gv_lss rfl (hF.t rfl) (ev_const _ _)) fun a hF => ?_
  refine wN ?_
  refine tN (hKq21 _ _ ?_)
  refine cond_dec (hF.t rfl) (fun hc103 => ?_) (fun hc103 => ?_)
  ·
   refine wp_skip ?_
   refine tN (hKq20 _ _ ?_)
   refine wK fun Kq22 hKq22 => ?_
   refine wp_block ?_
   refine Fw.wp_region_draw (by kernel_rfl) fun w hx => ?_
   replace hS := hS.ext hx
   clear hx
   refine run_head0 (n := 14) _ hF (by kernel_rfl) rfl ?_
   refine dg hF rfl rfl rfl rfl (fun w hx => gv_move rfl (hF.t rfl)) fun a hF => ?_
   refine dg hF rfl rfl rfl rfl (fun w hx => gv_move rfl (hF.t rfl)) fun a hF => ?_
   refine dg hF rfl rfl rfl rfl (fun w hx => gv_indexArr rfl u129 z5 (hF.t rfl) (hF.t rfl) (by omega)) fun a hF => ?_
   refine dg hF rfl rfl rfl rfl (fun w hx => gv_load rfl u5 rfl (hF.t rfl) (cell_ix ((hS.ext hx).cellB (k := 4) rfl (i) (by omega)) (by omega))) fun a hF => ?_
   refine dg hF rfl rfl rfl rfl (fun w hx => gv_conv_b_i rfl u5 u3 (hF.t rfl)) fun a hF => ?_
   refine dg hF rfl rfl rfl rfl (fun w hx => gv_move rfl (hF.t rfl)) fun a hF => ?_
   refine dg hF rfl rfl rfl rfl (fun w hx => gv_nquo (n := 4) rfl (hF.t rfl) rfl (by omega) (by omega)) fun a hF => ?_
   refine dg hF rfl rfl rfl rfl (fun w hx => gv_move rfl (hF.t rfl)) fun a hF => ?_
   refine dg hF rfl rfl rfl rfl (fun w hx => gv_nrem (n := 4) rfl (hF.t rfl) rfl (by omega)) fun a hF => ?_
   refine dg hF rfl rfl rfl rfl (fun w hx => gv_indexArr rfl u163 z162 (hF.t rfl) (hF.t rfl) (by omega)) fun a hF => ?_
   refine dg hF rfl rfl rfl rfl (fun w hx => gv_indexArr rfl u162 z3 (hF.t rfl) (hF.t rfl) (by omega)) fun a hF => ?_
   refine dg hF rfl rfl rfl rfl (fun w hx => gv_load rfl u3 rfl (hF.t rfl) (cell_ix ((hS.ext hx).cellM (k := 1) rfl (i / 4 * 4 + i % 4) (by rw [wks_len]; omega)) (by omega))) fun a hF => ?_
   refine dg hF rfl rfl rfl rfl (fun w hx => gv_x8 rfl (hF.t rfl) (hF.t rfl)) fun a hF => ?_
   refine dg hF rfl rfl rfl rfl (fun w hx => gv_indexArr rfl u165 z3 (hF.t rfl) (hF.t rfl) (by omega)) fun a hF => ?_
   refine dw_nil fun a w hA hx => ?_
   replace hF := hA _ hF
   replace hS := hS.ext hx
   clear hA hx
   refine run_stp (by kernel_rfl) rfl (stp_storeM (i) hF (wanted_none rfl) rfl rfl z3 (hF.t rfl) (by omega) (hF.t rfl) hS (k := 0) rfl (by rw [s0_len]; omega) fun w hS => ?_)
   refine run_done (by decide) ?_
   refine block_normal ?_
   refine tN (hKq22 _ _ ?_)
   refine wR ?_
   refine wg hF rfl rfl rfl (gv_move rfl (hF.t rfl)) fun a hF => ?_
   refine wg hF rfl rfl rfl (gv_nadd (n := 1) rfl (hF.t rfl) rfl (by omega)) fun a hF => ?_
   refine wg hF rfl rfl rfl (gv_assign rfl (hF.t rfl)) fun a hF => ?_
   refine wN ?_
   refine then_normal ?_
   exact ⟨n - 1, by omega, i + 1, by omega, by omega, hF.sub ⟨rfl, rfl, rfl, rfl, rfl, rfl, rfl, trivial⟩, hS⟩
  ·
   refine wp_exit ?_
   refine then_exit ?_
   refine then_exit ?_
   refine block_exit ?_
   refine tN (hKq18 _ _ ?_)
   refine wK fun Kq23 hKq23 => ?_
   refine wK fun Kq24 hKq24 => ?_
   refine wR ?_
   refine wg hF rfl rfl rfl (gv_assign rfl (ev_const _ _)) fun a hF => ?_
   refine wN ?_
   refine tN (hKq24 _ _ ?_)
   refine wp_block ?_
   obtain rfl : i = 16 := by omega
   refine wp_loop_n (fun n a w => ∃ r, r ≤ 10 ∧ n = 10 - r ∧ Fr 214 a [(0, .slice (some ⟨bk, ok, none⟩) 16 ck), (3, .pointer (some ⟨bb, 0, none⟩)), (4, .pointer (some ⟨res, 0, none⟩)), (5, .pointer (some ⟨t, 0, none⟩)), (6, .pointer (some ⟨ww, 0, none⟩)), (10, .pointer (some ⟨ss, 0, none⟩)), (12, vI (r + 1))] ∧ St w0 w [⟨true, some ss, blkM 165 (rS (wks kl) bl r)⟩, ⟨true, some ww, blkM 163 (wks kl)⟩, ⟨true, some t, blkM 160 swapL⟩, ⟨true, some res, blkB 129 (List.replicate 16 0)⟩, ⟨true, some bb, blkB 129 bl⟩]) 10 ⟨0, by omega, by omega, hF.sub ⟨rfl, rfl, rfl, rfl, rfl, rfl, rfl, trivial⟩, by rw [rS_zero]; exact hS⟩ ?_
   rintro n a w ⟨r, hr, hn, hF, hS⟩
   refine wK fun Kq25 hKq25 => ?_
   refine wK fun Kq26 hKq26 => ?_
   refine wR ?_
   refine wg hF rfl rfl rfl (gv_move rfl (hF.t rfl)) fun a hF => ?_
   refine wg hF rfl rfl rfl (gv_leq rfl (hF.t rfl) (ev_const _ _)) fun a hF => ?_
   refine wN ?_
   refine tN (hKq26 _ _ ?_)
   refine cond_dec (hF.t rfl) (fun hc121 => ?_) (fun hc121 => ?_)
   ·
    refine wp_skip ?_
    refine tN (hKq25 _ _ ?_)
    refine wK fun Kq27 hKq27 => ?_
    refine wp_block ?_
    refine wK fun Kq28 hKq28 => ?_
    refine wR ?_
    refine wpList_stp (stp_alloc hF (wanted_none rfl) rfl rfl rfl Tryd.zv165 rfl hS fun u a w hF hS => ?_)
    rw [rep_blkM] at hS
    refine wpList_stp (stp_alloc hF (wanted_none rfl) rfl rfl rfl Tryd.zv165 rfl hS fun v a w hF hS => ?_)
    rw [rep_blkM] at hS
    refine wN ?_
    refine tN (hKq28 _ _ ?_)
    refine wK fun Kq29 hKq29 => ?_
    refine wK fun Kq30 hKq30 => ?_
    refine wR ?_
    refine wg hF rfl rfl rfl (gv_assign rfl (ev_const _ _)) fun a hF => ?_
    refine wN ?_
    refine tN (hKq30 _ _ ?_)
    refine wp_block ?_
    refine wp_loop_n (fun q a w => ∃ i, i ≤ 16 ∧ q = 16 - i ∧ Fr 214 a [(0, .slice (some ⟨bk, ok, none⟩) 16 ck), (3, .pointer (some ⟨bb, 0, none⟩)), (4, .pointer (some ⟨res, 0, none⟩)), (5, .pointer (some ⟨t, 0, none⟩)), (6, .pointer (some ⟨ww, 0, none⟩)), (10, .pointer (some ⟨ss, 0, none⟩)), (12, vI (r + 1)), (13, .pointer (some ⟨u, 0, none⟩)), (14, .pointer (some ⟨v, 0, none⟩)), (15, vI i)] ∧ St w0 w [⟨true, some v, blkM 165 (List.replicate 16 0)⟩, ⟨true, some u, blkM 165 (uu (rS (wks kl) bl r) i)⟩, ⟨true, some ss, blkM 165 (rS (wks kl) bl r)⟩, ⟨true, some ww, blkM 163 (wks kl)⟩, ⟨true, some t, blkM 160 swapL⟩, ⟨true, some res, blkB 129 (List.replicate 16 0)⟩, ⟨true, some bb, blkB 129 bl⟩]) 16 ⟨0, by omega, by omega, hF.sub ⟨rfl, rfl, rfl, rfl, rfl, rfl, rfl, rfl, rfl, rfl, trivial⟩, hS⟩ ?_
    rintro q a w ⟨i, hi, hq, hF, hS⟩
    refine wK fun Kq31 hKq31 => ?_
    refine wK fun Kq32 hKq32 => ?_
    refine wR ?_
    refine wg hF rfl rfl rfl (gv_move rfl (hF.t rfl)) fun a hF => ?_
    refine wg hF rfl rfl rfl (gv_lss rfl (hF.t rfl) (ev_const _ _)) fun a hF => ?_
    refine wN ?_
    refine tN (hKq32 _ _ ?_)
    refine cond_dec (hF.t rfl) (fun hc125 => ?_) (fun hc125 => ?_)
    ·
     refine wp_skip ?_
     refine tN (hKq31 _ _ ?_)
     refine wK fun Kq33 hKq33 => ?_
     refine wp_block ?_
     refine wR ?_
     refine wg hF rfl rfl rfl (gv_move rfl (hF.t rfl)) fun a hF => ?_
     refine wg hF rfl rfl rfl (gv_move rfl (hF.t rfl)) fun a hF => ?_
     refine wg hF rfl rfl rfl (gv_move rfl (hF.t rfl)) fun a hF => ?_
     refine wg hF rfl rfl rfl (gv_nrem (n := 4) rfl (hF.t rfl) rfl (by omega)) fun a hF => ?_
     refine wg hF rfl rfl rfl (gv_nmul (m := 4) rfl rfl (hF.t rfl) (by omega)) fun a hF => ?_
     refine wg hF rfl rfl rfl (gv_nadd rfl (hF.t rfl) (hF.t rfl) (by omega)) fun a hF => ?_
     refine wg hF rfl rfl rfl (gv_nrem (n := 16) rfl (hF.t rfl) rfl (by omega)) fun a hF => ?_
     refine wg hF rfl rfl rfl (gv_indexArr rfl u165 z3 (hF.t rfl) (hF.t rfl) (by omega)) fun a hF => ?_
     refine wg hF rfl rfl rfl (gv_load rfl u3 rfl (hF.t rfl) (cell_ix (hS.cellM (k := 2) rfl ((i + 4 * (i % 4)) % 16) (by rw [rS_len]; omega)) (by omega))) fun a hF => ?_
     refine wg hF rfl rfl rfl (gv_indexArr rfl u160 z3 (hF.t rfl) (hF.t rfl) (UInt8.toNat_lt _)) fun a hF => ?_
     refine wg hF rfl rfl rfl (gv_load rfl u3 rfl (hF.t rfl) (cell_ix (j := ((rS (wks kl) bl r).getD ((i + 4 * (i % 4)) % 16) 0).toNat) (hS.cell (k := 4) rfl (swn_at _)) (by omega))) fun a hF => ?_
     refine wg hF rfl rfl rfl (gv_indexArr rfl u165 z3 (hF.t rfl) (hF.t rfl) (by omega)) fun a hF => ?_
     refine wpList_stp (stp_storeM (i) hF (wanted_none rfl) rfl rfl z3 (hF.t rfl) (by omega) (hF.t rfl) hS (k := 1) rfl (by rw [uu_len]; omega) fun w hS => ?_)
     refine wN ?_
     refine block_normal ?_
     refine tN (hKq33 _ _ ?_)
     refine wR ?_
     refine wg hF rfl rfl rfl (gv_move rfl (hF.t rfl)) fun a hF => ?_
     refine wg hF rfl rfl rfl (gv_nadd (n := 1) rfl (hF.t rfl) rfl (by omega)) fun a hF => ?_
     refine wg hF rfl rfl rfl (gv_assign rfl (hF.t rfl)) fun a hF => ?_
     refine wN ?_
     refine then_normal ?_
     exact ⟨q - 1, by omega, i + 1, by omega, by omega, hF.sub ⟨rfl, rfl, rfl, rfl, rfl, rfl, rfl, rfl, rfl, rfl, trivial⟩, hS⟩
    ·
     refine wp_exit ?_
     refine then_exit ?_
     refine then_exit ?_
     refine block_exit ?_
     refine tN (hKq29 _ _ ?_)
     refine wK fun Kq34 hKq34 => ?_
     refine wK fun Kq35 hKq35 => ?_
     refine wR ?_
     refine wg hF rfl rfl rfl (gv_assign rfl (ev_const _ _)) fun a hF => ?_
     refine wN ?_
     refine tN (hKq35 _ _ ?_)
     refine wp_block ?_
     obtain rfl : i = 16 := by omega
     refine wp_loop_n (fun q a w => ∃ i, i ≤ 16 ∧ q = 16 - i ∧ Fr 214 a [(0, .slice (some ⟨bk, ok, none⟩) 16 ck), (3, .pointer (some ⟨bb, 0, none⟩)), (4, .pointer (some ⟨res, 0, none⟩)), (5, .pointer (some ⟨t, 0, none⟩)), (6, .pointer (some ⟨ww, 0, none⟩)), (10, .pointer (some ⟨ss, 0, none⟩)), (12, vI (r + 1)), (13, .pointer (some ⟨u, 0, none⟩)), (14, .pointer (some ⟨v, 0, none⟩)), (16, vI i)] ∧ St w0 w [⟨true, some v, blkM 165 (vv (wks kl) (r + 1) (uu (rS (wks kl) bl r) 16) i)⟩, ⟨true, some u, blkM 165 (uu (rS (wks kl) bl r) 16)⟩, ⟨true, some ss, blkM 165 (rS (wks kl) bl r)⟩, ⟨true, some ww, blkM 163 (wks kl)⟩, ⟨true, some t, blkM 160 swapL⟩, ⟨true, some res, blkB 129 (List.replicate 16 0)⟩, ⟨true, some bb, blkB 129 bl⟩]) 16 ⟨0, by omega, by omega, hF.sub ⟨rfl, rfl, rfl, rfl, rfl, rfl, rfl, rfl, rfl, rfl, trivial⟩, hS⟩ ?_
     rintro q a w ⟨i, hi, hq, hF, hS⟩
     refine wK fun Kq36 hKq36 => ?_
     refine wK fun Kq37 hKq37 => ?_
     refine wR ?_
     refine wg hF rfl rfl rfl (gv_move rfl (hF.t rfl)) fun a hF => ?_
     refine wg hF rfl rfl rfl (gv_lss rfl (hF.t rfl) (ev_const _ _)) fun a hF => ?_
     refine wN ?_
     refine tN (hKq37 _ _ ?_)
     refine cond_dec (hF.t rfl) (fun hc141 => ?_) (fun hc141 => ?_)
     ·
      refine wp_skip ?_
      refine tN (hKq36 _ _ ?_)
      refine wK fun Kq38 hKq38 => ?_
      refine wp_block ?_
      refine wK fun Kq39 hKq39 => ?_
      refine wR ?_
      refine wg hF rfl rfl rfl (gv_move rfl (hF.t rfl)) fun a hF => ?_
      refine wg hF rfl rfl rfl (gv_move rfl (hF.t rfl)) fun a hF => ?_
      refine wg hF rfl rfl rfl (gv_nrem (n := 4) rfl (hF.t rfl) rfl (by omega)) fun a hF => ?_
      refine wg hF rfl rfl rfl (gv_nsub rfl (hF.t rfl) (hF.t rfl) (by omega) (by omega)) fun a hF => ?_
      refine wg hF rfl rfl rfl (gv_assign rfl (hF.t rfl)) fun a hF => ?_
      refine wN ?_
      refine tN (hKq39 _ _ ?_)
      refine wK fun Kq40 hKq40 => ?_
      refine wR ?_
      refine wg hF rfl rfl rfl (gv_move rfl (hF.t rfl)) fun a hF => ?_
      refine wg hF rfl rfl rfl (gv_move rfl (hF.t rfl)) fun a hF => ?_
      refine wg hF rfl rfl rfl (gv_indexArr rfl u165 z3 (hF.t rfl) (hF.t rfl) (by omega)) fun a hF => ?_
      refine wg hF rfl rfl rfl (gv_load rfl u3 rfl (hF.t rfl) (cell_ix (hS.cellM (k := 1) rfl (i) (by rw [uu_len]; omega)) (by omega))) fun a hF => ?_
      refine wg hF rfl rfl rfl (gv_indexArr rfl u165 z3 (hF.t rfl) (hF.t rfl) (by omega)) fun a hF => ?_
      refine wpList_stp (stp_storeM (i) hF (wanted_none rfl) rfl rfl z3 (hF.t rfl) (by omega) (hF.t rfl) hS (k := 0) rfl (by rw [vv_len]; omega) fun w hS => ?_)
      refine wN ?_
      refine tN (hKq40 _ _ ?_)
      refine wp_cut (fun a w => Fr 214 a [(0, .slice (some ⟨bk, ok, none⟩) 16 ck), (3, .pointer (some ⟨bb, 0, none⟩)), (4, .pointer (some ⟨res, 0, none⟩)), (5, .pointer (some ⟨t, 0, none⟩)), (6, .pointer (some ⟨ww, 0, none⟩)), (10, .pointer (some ⟨ss, 0, none⟩)), (12, vI (r + 1)), (13, .pointer (some ⟨u, 0, none⟩)), (14, .pointer (some ⟨v, 0, none⟩)), (16, vI i)] ∧ St w0 w [⟨true, some v, blkM 165 ((vv (wks kl) (r + 1) (uu (rS (wks kl) bl r) 16) i).set i (mxv (r + 1) (uu (rS (wks kl) bl r) 16) i))⟩, ⟨true, some u, blkM 165 (uu (rS (wks kl) bl r) 16)⟩, ⟨true, some ss, blkM 165 (rS (wks kl) bl r)⟩, ⟨true, some ww, blkM 163 (wks kl)⟩, ⟨true, some t, blkM 160 swapL⟩, ⟨true, some res, blkB 129 (List.replicate 16 0)⟩, ⟨true, some bb, blkB 129 bl⟩]) ?_ ?_
      ·
       refine wK fun Kq41 hKq41 => ?_
       refine wR ?_
       refine wg hF rfl rfl rfl (gv_move rfl (hF.t rfl)) fun a hF => ?_
       refine wg hF rfl rfl rfl (gv_lss rfl (hF.t rfl) (ev_const _ _)) fun a hF => ?_
       refine wN ?_
       refine tN (hKq41 _ _ ?_)
       refine cond_dec (hF.t rfl) (fun h154 => ?_) (fun h154 => ?_)
       ·
        refine Fw.wp_region_draw (by kernel_rfl) fun w hx => ?_
        replace hS := hS.ext hx
        clear hx
        refine run_head0 (n := 31) _ hF (by kernel_rfl) rfl ?_
        refine dg hF rfl rfl rfl rfl (fun w hx => gv_move rfl (hF.t rfl)) fun a hF => ?_
        refine dg hF rfl rfl rfl rfl (fun w hx => gv_move rfl (hF.t rfl)) fun a hF => ?_
        refine dg hF rfl rfl rfl rfl (fun w hx => gv_indexArr rfl u165 z3 (hF.t rfl) (hF.t rfl) (by omega)) fun a hF => ?_
        refine dg hF rfl rfl rfl rfl (fun w hx => gv_load rfl u3 rfl (hF.t rfl) (cell_ix ((hS.ext hx).cellM (k := 1) rfl (i) (by rw [uu_len]; omega)) (by omega))) fun a hF => ?_
        refine dw_call hF rfl (wanted_none rfl) rfl rfl Tryd.ok95 rfl (Evs.cons (ev_const _ _) (Evs.cons (hF.t rfl) Evs.nil)) (fun w hx => times2) fun a hF => ?_
        refine dg hF rfl rfl rfl rfl (fun w hx => gv_move rfl (hF.t rfl)) fun a hF => ?_
        refine dg hF rfl rfl rfl rfl (fun w hx => gv_move rfl (hF.t rfl)) fun a hF => ?_
        refine dg hF rfl rfl rfl rfl (fun w hx => gv_nadd (n := 1) rfl (hF.t rfl) rfl (by omega)) fun a hF => ?_
        refine dg hF rfl rfl rfl rfl (fun w hx => gv_nrem (n := 4) rfl (hF.t rfl) rfl (by omega)) fun a hF => ?_
        refine dg hF rfl rfl rfl rfl (fun w hx => gv_nadd rfl (hF.t rfl) (hF.t rfl) (by omega)) fun a hF => ?_
        refine dg hF rfl rfl rfl rfl (fun w hx => gv_indexArr rfl u165 z3 (hF.t rfl) (hF.t rfl) (by omega)) fun a hF => ?_
        refine dg hF rfl rfl rfl rfl (fun w hx => gv_load rfl u3 rfl (hF.t rfl) (cell_ix ((hS.ext hx).cellM (k := 1) rfl (i - i % 4 + (i + 1) % 4) (by rw [uu_len]; omega)) (by omega))) fun a hF => ?_
        refine dw_call hF rfl (wanted_none rfl) rfl rfl Tryd.ok95 rfl (Evs.cons (ev_const _ _) (Evs.cons (hF.t rfl) Evs.nil)) (fun w hx => times3) fun a hF => ?_
        refine dg hF rfl rfl rfl rfl (fun w hx => gv_x8 rfl (hF.t rfl) (hF.t rfl)) fun a hF => ?_
        refine dg hF rfl rfl rfl rfl (fun w hx => gv_move rfl (hF.t rfl)) fun a hF => ?_
        refine dg hF rfl rfl rfl rfl (fun w hx => gv_move rfl (hF.t rfl)) fun a hF => ?_
        refine dg hF rfl rfl rfl rfl (fun w hx => gv_nadd (n := 2) rfl (hF.t rfl) rfl (by omega)) fun a hF => ?_
        refine dg hF rfl rfl rfl rfl (fun w hx => gv_nrem (n := 4) rfl (hF.t rfl) rfl (by omega)) fun a hF => ?_
        refine dg hF rfl rfl rfl rfl (fun w hx => gv_nadd rfl (hF.t rfl) (hF.t rfl) (by omega)) fun a hF => ?_
        refine dg hF rfl rfl rfl rfl (fun w hx => gv_indexArr rfl u165 z3 (hF.t rfl) (hF.t rfl) (by omega)) fun a hF => ?_
        refine dg hF rfl rfl rfl rfl (fun w hx => gv_load rfl u3 rfl (hF.t rfl) (cell_ix ((hS.ext hx).cellM (k := 1) rfl (i - i % 4 + (i + 2) % 4) (by rw [uu_len]; omega)) (by omega))) fun a hF => ?_
        refine dg hF rfl rfl rfl rfl (fun w hx => gv_x8 rfl (hF.t rfl) (hF.t rfl)) fun a hF => ?_
        refine dg hF rfl rfl rfl rfl (fun w hx => gv_move rfl (hF.t rfl)) fun a hF => ?_
        refine dg hF rfl rfl rfl rfl (fun w hx => gv_move rfl (hF.t rfl)) fun a hF => ?_
        refine dg hF rfl rfl rfl rfl (fun w hx => gv_nadd (n := 3) rfl (hF.t rfl) rfl (by omega)) fun a hF => ?_
        refine dg hF rfl rfl rfl rfl (fun w hx => gv_nrem (n := 4) rfl (hF.t rfl) rfl (by omega)) fun a hF => ?_
        refine dg hF rfl rfl rfl rfl (fun w hx => gv_nadd rfl (hF.t rfl) (hF.t rfl) (by omega)) fun a hF => ?_
        refine dg hF rfl rfl rfl rfl (fun w hx => gv_indexArr rfl u165 z3 (hF.t rfl) (hF.t rfl) (by omega)) fun a hF => ?_
        refine dg hF rfl rfl rfl rfl (fun w hx => gv_load rfl u3 rfl (hF.t rfl) (cell_ix ((hS.ext hx).cellM (k := 1) rfl (i - i % 4 + (i + 3) % 4) (by rw [uu_len]; omega)) (by omega))) fun a hF => ?_
        refine dg hF rfl rfl rfl rfl (fun w hx => gv_x8 rfl (hF.t rfl) (hF.t rfl)) fun a hF => ?_
        refine dg hF rfl rfl rfl rfl (fun w hx => gv_indexArr rfl u165 z3 (hF.t rfl) (hF.t rfl) (by omega)) fun a hF => ?_
        refine dw_nil fun a w hA hx => ?_
        replace hF := hA _ hF
        replace hS := hS.ext hx
        clear hA hx
        refine run_stp (by kernel_rfl) rfl (stp_storeM (i) hF (wanted_none rfl) rfl rfl z3 (hF.t rfl) (by omega) (hF.t rfl) hS (k := 0) rfl (by rw [List.length_set, vv_len]; omega) fun w hS => ?_)
        simp only [List.set_cons_zero, List.set_set] at hS
        refine run_done (by decide) ?_
        refine then_normal ?_
        exact ⟨hF.sub ⟨rfl, rfl, rfl, rfl, rfl, rfl, rfl, rfl, rfl, rfl, trivial⟩, by rw [mxv, if_pos (by omega)]; exact hS⟩
       ·
        refine wp_skip ?_
        refine then_normal ?_
        exact ⟨hF.sub ⟨rfl, rfl, rfl, rfl, rfl, rfl, rfl, rfl, rfl, rfl, trivial⟩, by rw [mxv, if_neg (by omega)]; exact hS⟩
      ·
       rintro a w ⟨hF, hS⟩
       refine Fw.wp_region_draw (by kernel_rfl) fun w hx => ?_
       replace hS := hS.ext hx
       clear hx
       refine run_head0 (n := 16) _ hF (by kernel_rfl) rfl ?_
       refine dg hF rfl rfl rfl rfl (fun w hx => gv_move rfl (hF.t rfl)) fun a hF => ?_
       refine dg hF rfl rfl rfl rfl (fun w hx => gv_move rfl (hF.t rfl)) fun a hF => ?_
       refine dg hF rfl rfl rfl rfl (fun w hx => gv_indexArr rfl u165 z3 (hF.t rfl) (hF.t rfl) (by omega)) fun a hF => ?_
       refine dg hF rfl rfl rfl rfl (fun w hx => gv_load rfl u3 rfl (hF.t rfl) (cell_ix ((hS.ext hx).cellM (k := 0) rfl (i) (by rw [List.length_set, vv_len]; omega)) (by omega))) fun a hF => ?_
       refine dg hF rfl rfl rfl rfl (fun w hx => gv_move rfl (hF.t rfl)) fun a hF => ?_
       refine dg hF rfl rfl rfl rfl (fun w hx => gv_nmul (m := 4) rfl rfl (hF.t rfl) (by omega)) fun a hF => ?_
       refine dg hF rfl rfl rfl rfl (fun w hx => gv_move rfl (hF.t rfl)) fun a hF => ?_
       refine dg hF rfl rfl rfl rfl (fun w hx => gv_nquo (n := 4) rfl (hF.t rfl) rfl (by omega) (by omega)) fun a hF => ?_
       refine dg hF rfl rfl rfl rfl (fun w hx => gv_nadd rfl (hF.t rfl) (hF.t rfl) (by omega)) fun a hF => ?_
       refine dg hF rfl rfl rfl rfl (fun w hx => gv_move rfl (hF.t rfl)) fun a hF => ?_
       refine dg hF rfl rfl rfl rfl (fun w hx => gv_nrem (n := 4) rfl (hF.t rfl) rfl (by omega)) fun a hF => ?_
       refine dg hF rfl rfl rfl rfl (fun w hx => gv_indexArr rfl u163 z162 (hF.t rfl) (hF.t rfl) (by omega)) fun a hF => ?_
       refine dg hF rfl rfl rfl rfl (fun w hx => gv_indexArr rfl u162 z3 (hF.t rfl) (hF.t rfl) (by omega)) fun a hF => ?_
       refine dg hF rfl rfl rfl rfl (fun w hx => gv_load rfl u3 rfl (hF.t rfl) (cell_ix ((hS.ext hx).cellM (k := 3) rfl ((4 * (r + 1) + i / 4) * 4 + i % 4) (by rw [wks_len]; omega)) (by omega))) fun a hF => ?_
       refine dg hF rfl rfl rfl rfl (fun w hx => gv_x8 rfl (hF.t rfl) (hF.t rfl)) fun a hF => ?_
       refine dg hF rfl rfl rfl rfl (fun w hx => gv_indexArr rfl u165 z3 (hF.t rfl) (hF.t rfl) (by omega)) fun a hF => ?_
       refine dw_nil fun a w hA hx => ?_
       replace hF := hA _ hF
       replace hS := hS.ext hx
       clear hA hx
       refine run_stp (by kernel_rfl) rfl (stp_storeM (i) hF (wanted_none rfl) rfl rfl z3 (hF.t rfl) (by omega) (hF.t rfl) hS (k := 0) rfl (by rw [List.length_set, vv_len]; omega) fun w hS => ?_)
       simp only [List.set_cons_zero, List.set_set] at hS
       rw [set_get (by rw [vv_len]; omega), ← vv_succ] at hS
       refine run_done (by decide) ?_
       refine block_normal ?_
       refine tN (hKq38 _ _ ?_)
       refine wR ?_
       refine wg hF rfl rfl rfl (gv_move rfl (hF.t rfl)) fun a hF => ?_
       refine wg hF rfl rfl rfl (gv_nadd (n := 1) rfl (hF.t rfl) rfl (by omega)) fun a hF => ?_
       refine wg hF rfl rfl rfl (gv_assign rfl (hF.t rfl)) fun a hF => ?_
       refine wN ?_
       refine then_normal ?_
       exact ⟨q - 1, by omega, i + 1, by omega, by omega, hF.sub ⟨rfl, rfl, rfl, rfl, rfl, rfl, rfl, rfl, rfl, rfl, trivial⟩, hS⟩
     ·
      refine wp_exit ?_
      refine then_exit ?_
      refine then_exit ?_
      refine block_exit ?_
      refine tN (hKq34 _ _ ?_)
      refine wR ?_
      refine wg hF rfl rfl rfl (gv_loadAll rfl u165 rfl (z165.trans (congrArg some (by simp [vv_len]))) (hF.t rfl) hS (k := 0) rfl) fun a hF => ?_
      refine wpList_stp (stp_storeAll hF (wanted_none rfl) rfl rfl (z165.trans (congrArg some (by simp [vv_len]))) (hF.t rfl) (hF.t rfl) (one_M _) hS (k := 2) rfl (by simp [vv_len, rS_len]) fun w hS => ?_)
      refine wN ?_
      refine block_normal ?_
      refine tN (hKq27 _ _ ?_)
      refine wR ?_
      refine wg hF rfl rfl rfl (gv_move rfl (hF.t rfl)) fun a hF => ?_
      refine wg hF rfl rfl rfl (gv_nadd (n := 1) rfl (hF.t rfl) rfl (by omega)) fun a hF => ?_
      refine wg hF rfl rfl rfl (gv_assign rfl (hF.t rfl)) fun a hF => ?_
      refine wN ?_
      refine then_normal ?_
      obtain rfl : i = 16 := by omega
      exact ⟨n - 1, by omega, r + 1, by omega, by omega, hF.sub ⟨rfl, rfl, rfl, rfl, rfl, rfl, rfl, trivial⟩, by rw [rS_succ]; exact (hS.drop rfl).drop rfl⟩
   ·
    refine wp_exit ?_
    refine then_exit ?_
    refine then_exit ?_
    refine block_exit ?_
    refine tN (hKq23 _ _ ?_)
    refine wK fun Kq42 hKq42 => ?_
    obtain rfl : r = 10 := by omega
    refine wR ?_
    refine wpList_stp (stp_alloc hF (wanted_none rfl) rfl rfl rfl Tryd.zv129 rfl hS fun out a w hF hS => ?_)
    refine wN ?_
    refine tN (hKq42 _ _ ?_)
    refine wK fun Kq43 hKq43 => ?_
    refine wK fun Kq44 hKq44 => ?_
    refine wR ?_
    refine wg hF rfl rfl rfl (gv_assign rfl (ev_const _ _)) fun a hF => ?_
    refine wN ?_
    refine tN (hKq44 _ _ ?_)
    refine wp_block ?_
    refine wp_loop_n (fun n a w => ∃ i, i ≤ 16 ∧ n = 16 - i ∧ Fr 214 a [(0, .slice (some ⟨bk, ok, none⟩) 16 ck), (3, .pointer (some ⟨bb, 0, none⟩)), (4, .pointer (some ⟨res, 0, none⟩)), (5, .pointer (some ⟨t, 0, none⟩)), (6, .pointer (some ⟨ww, 0, none⟩)), (10, .pointer (some ⟨ss, 0, none⟩)), (18, .pointer (some ⟨out, 0, none⟩)), (19, vI i)] ∧ St w0 w [⟨true, some out, blkB 129 (o16 (rS (wks kl) bl 10) i)⟩, ⟨true, some ss, blkM 165 (rS (wks kl) bl 10)⟩, ⟨true, some ww, blkM 163 (wks kl)⟩, ⟨true, some t, blkM 160 swapL⟩, ⟨true, some res, blkB 129 (List.replicate 16 0)⟩, ⟨true, some bb, blkB 129 bl⟩]) 16 ⟨0, by omega, by omega, hF.sub ⟨rfl, rfl, rfl, rfl, rfl, rfl, rfl, rfl, trivial⟩, hS⟩ ?_
    rintro n a w ⟨i, hi, hn, hF, hS⟩
    refine wK fun Kq45 hKq45 => ?_
    refine wK fun Kq46 hKq46 => ?_
    refine wR ?_
    refine wg hF rfl rfl rfl (gv_move rfl (hF.t rfl)) fun a hF => ?_
    refine wg hF rfl rfl rfl (gv_lss rfl (hF.t rfl) (ev_const _ _)) fun a hF => ?_
    refine wN ?_
    refine tN (hKq46 _ _ ?_)
    refine cond_dec (hF.t rfl) (fun hc204 => ?_) (fun hc204 => ?_)
    ·
     refine wp_skip ?_
     refine tN (hKq45 _ _ ?_)
     refine wK fun Kq47 hKq47 => ?_
     refine wp_block ?_
     refine wR ?_
     refine wg hF rfl rfl rfl (gv_move rfl (hF.t rfl)) fun a hF => ?_
     refine wg hF rfl rfl rfl (gv_move rfl (hF.t rfl)) fun a hF => ?_
     refine wg hF rfl rfl rfl (gv_indexArr rfl u165 z3 (hF.t rfl) (hF.t rfl) (by omega)) fun a hF => ?_
     refine wg hF rfl rfl rfl (gv_load rfl u3 rfl (hF.t rfl) (cell_ix (hS.cellM (k := 1) rfl (i) (by rw [rS_len]; omega)) (by omega))) fun a hF => ?_
     refine wg hF rfl rfl rfl (gv_conv_n_b rfl u3 u5 (hF.t rfl)) fun a hF => ?_
     refine wg hF rfl rfl rfl (gv_indexArr rfl u129 z5 (hF.t rfl) (hF.t rfl) (by omega)) fun a hF => ?_
     refine wpList_stp (stp_storeB (i) hF (wanted_none rfl) rfl rfl z5 (hF.t rfl) (by omega) (hF.t rfl) hS (k := 0) rfl (by rw [o16_len]; omega) fun w hS => ?_)
     refine wN ?_
     refine block_normal ?_
     refine tN (hKq47 _ _ ?_)
     refine wR ?_
     refine wg hF rfl rfl rfl (gv_move rfl (hF.t rfl)) fun a hF => ?_
     refine wg hF rfl rfl rfl (gv_nadd (n := 1) rfl (hF.t rfl) rfl (by omega)) fun a hF => ?_
     refine wg hF rfl rfl rfl (gv_assign rfl (hF.t rfl)) fun a hF => ?_
     refine wN ?_
     refine then_normal ?_
     exact ⟨n - 1, by omega, i + 1, by omega, by omega, hF.sub ⟨rfl, rfl, rfl, rfl, rfl, rfl, rfl, rfl, trivial⟩, hS⟩
    ·
     refine wp_exit ?_
     refine then_exit ?_
     refine then_exit ?_
     refine block_exit ?_
     refine tN (hKq43 _ _ ?_)
     refine wK fun Kq48 hKq48 => ?_
     refine wR ?_
     refine wg hF rfl rfl rfl (gv_loadAll rfl u129 rfl (z129.trans (congrArg some (by simp [o16_len]))) (hF.t rfl) hS (k := 0) rfl) fun a hF => ?_
     refine wpList_stp (stp_storeAll hF (wanted_none rfl) rfl rfl (z129.trans (congrArg some (by simp [o16_len]))) (hF.t rfl) (hF.t rfl) (one_B _) hS (k := 4) rfl (by simp [o16_len]) fun w hS => ?_)
     refine wN ?_
     refine tN (hKq48 _ _ ?_)
     refine wp_ret ?_
     obtain rfl : i = 16 := by omega
     refine retCell (fn := Tryd.f89) hF rfl u129 rfl (z129.trans (congrArg some (by simp [o16_len]))) rfl hS (k := 4) rfl ⟨rfl, hS.toExt (by simp)⟩
end Go.Proofs.YtfhalnobaeogkaaDoor
set_option linter.unusedVariables false
set_option linter.unusedSimpArgs false
namespace Go.Proofs.YtfhalnobaeogkaaDoor
open Go Go.RowKit Go.Fw
theorem Tryd.ok89 : CallOk Tryd.prog 89 := ⟨_, Tryd.func89, by kernel_rfl, by kernel_rfl⟩
def rblk (kl bl : List UInt8) : List UInt8 := o16 (rS (wks kl) bl 10) 16
theorem rblk_len (kl bl : List UInt8) : (rblk kl bl).length = 16 := o16_len _ _
def cI (cl : List UInt8) : Nat → List UInt8
 | 0 => cl
 | m + 1 => incC (cI cl m)
theorem cI_len {cl : List UInt8} (h : cl.length = 16) (m : Nat) : (cI cl m).length = 16 := by induction m with
 | zero => exact h
 | succ m ih => rw [cI, incC_len, ih]
theorem cI_succ (cl : List UInt8) (m : Nat) : cI cl (m + 1) = incC (cI cl m) := rfl
def bB (kl cl : List UInt8) : Nat → List UInt8
 | 0 => []
 | m + 1 => bB kl cl m ++ rblk kl (cI cl m)
theorem bB_len (kl cl : List UInt8) (m : Nat) : (bB kl cl m).length = 16 * m := by induction m with
 | zero => rfl
 | succ m ih => rw [bB, List.length_append, ih, rblk_len]; omega
theorem bB_app (kl cl : List UInt8) (m : Nat) : (bB kl cl m).map vB ++ (rblk kl (cI cl m)).map vB = (bB kl cl (m + 1)).map vB := by rw [bB, List.map_append]
def byts (kl cl : List UInt8) (n : Nat) : List UInt8 := (bB kl cl ((n + 15) / 16)).take n
theorem byts_len (kl cl : List UInt8) (n : Nat) : (byts kl cl n).length = n := by rw [byts, List.length_take, bB_len]; omega
def xr (al bl : List UInt8) (k : Nat) : List UInt8 := (List.range k).map fun i => al.getD i 0 ^^^ bl.getD i 0
theorem xr_len (al bl : List UInt8) (k : Nat) : (xr al bl k).length = k := by simp [xr]
theorem xr_app (al bl : List UInt8) (k : Nat) : (xr al bl k).map vB ++ [vB (al.getD k 0 ^^^ bl.getD k 0)] = (xr al bl (k + 1)).map vB := by
 rw [xr, xr, List.range_succ, List.map_append, List.map_append]; rfl
theorem rblock_any {kv : Value} {kl bl : List UInt8} {w0 : World} (hkv : Rd w0 kv (kl.map vB)) (hk : kl.length = 16) (hb : bl.length = 16) :
  Calls Tryd.prog 89 #[kv, .agg (bl.map vB).toArray] w0 fun e w' => e = .returned (.agg ((rblk kl bl).map vB).toArray) ∧ Ext w0 w' := rblock_ok hkv hk hb
theorem rturn_ok {av bv : Value} {al bl : List UInt8} {w0 : World} (hav : Rd w0 av (al.map vB)) (hbv : Rd w0 bv (bl.map vB)) (hl : al.length ≤ bl.length) (hn : al.length ≤ 1099511627776) :
  Calls Tryd.prog 73 #[av, bv] w0 (RetRd w0 (xr al bl al.length)) := by
 obtain ⟨Aa, ca, rfl, ha1, ha2, hac⟩ := hav.isB
 obtain ⟨Ab, cb, rfl, hb1, hb2, hbc⟩ := hbv.isB
 refine calls_start 26 Tryd.func73 rfl Tryd.ntmps73 rfl fun a hF => ?_
 have hS := St.refl w0
 replace hS := hS.addNil (blk 5 ([] ++ []))
 refine wK fun Kq1 hKq1 => ?_
 refine wR ?_
 refine wg hF rfl rfl rfl (gv_assign rfl (ev_const _ _)) fun a hF => ?_
 refine wN ?_
 refine tN (hKq1 _ _ ?_)
 refine wK fun Kq2 hKq2 => ?_
 refine wR ?_
 refine wg hF rfl rfl rfl (gv_assign rfl (ev_const _ _)) fun a hF => ?_
 refine wN ?_
 refine tN (hKq2 _ _ ?_)
 refine wK fun Kq3 hKq3 => ?_
 refine wK fun Kq4 hKq4 => ?_
 refine wR ?_
 refine wg hF rfl rfl rfl (gv_assign rfl (ev_const _ _)) fun a hF => ?_
 refine wN ?_
 refine tN (hKq4 _ _ ?_)
 refine wp_block ?_
 refine wp_loop_n (fun n a w => ∃ k ob pad, k ≤ al.length ∧ n = al.length - k ∧ (ob = none → k = 0 ∧ pad = []) ∧ k + pad.length ≤ 9223372036854775807 ∧ Fr 26 a [(0, .slice Aa al.length ca), (1, .slice Ab bl.length cb), (5, ownV ob k (k + pad.length)), (6, vI k)] ∧ St w0 w [⟨true, ob, blk 5 ((xr al bl k).map vB ++ pad)⟩]) al.length ⟨0, none, [], by omega, by omega, fun _ => ⟨rfl, rfl⟩, by simp, hF.sub ⟨rfl, rfl, rfl, rfl, trivial⟩, hS⟩ ?_
 rintro n a w ⟨k, ob, pad, hk, hn, hob, hcap, hF, hS⟩
 refine wK fun Kq5 hKq5 => ?_
 refine wK fun Kq6 hKq6 => ?_
 refine wR ?_
 refine wg hF rfl rfl rfl (gv_move rfl (hF.t rfl)) fun a hF => ?_
 refine wg hF rfl rfl rfl (gv_move rfl (hF.t rfl)) fun a hF => ?_
 refine wg hF rfl rfl rfl (gv_len rfl u22 (hF.t rfl)) fun a hF => ?_
 refine wg hF rfl rfl rfl (gv_lss rfl (hF.t rfl) (hF.t rfl)) fun a hF => ?_
 refine wN ?_
 refine tN (hKq6 _ _ ?_)
 refine cond_dec (hF.t rfl) (fun h10 => ?_) (fun h10 => ?_)
 ·
  obtain ⟨ba, oa, rfl, hac⟩ := hac (by omega)
  obtain ⟨bb, oB, rfl, hbc⟩ := hbc (by omega)
  refine wp_skip ?_
  refine tN (hKq5 _ _ ?_)
  refine wK fun Kq7 hKq7 => ?_
  refine wp_block ?_
  refine Fw.wp_region_draw (by kernel_rfl) fun w hx => ?_
  replace hS := hS.ext hx
  clear hx
  refine run_head1 (n := 11) _ 10 23 _ (FlS w 5 1 [vB (al.getD k 0 ^^^ bl.getD k 0)]) hF (by kernel_rfl) rfl rfl rfl (FlS.lasts w 5 1 [vB (al.getD k 0 ^^^ bl.getD k 0)]) ?_ (by omega) (by omega)
  refine dg hF rfl rfl rfl rfl (fun w hx => gv_move rfl (hF.t rfl)) fun a hF => ?_
  refine dg hF rfl rfl rfl rfl (fun w hx => gv_move rfl (hF.t rfl)) fun a hF => ?_
  refine dg hF rfl rfl rfl rfl (fun w hx => gv_move rfl (hF.t rfl)) fun a hF => ?_
  refine dg hF rfl rfl rfl rfl (fun w hx => gv_indexSl rfl u22 z5 (hF.t rfl) (hF.t rfl) (by omega)) fun a hF => ?_
  refine dg hF rfl rfl rfl rfl (fun w hx => gv_load rfl u5 rfl (hF.t rfl) (cell_ix ((hav.ext (((hS.ext hx)).toExt (nw_cons rfl nw_nil))).cellB k (by omega)) (by omega))) fun a hF => ?_
  refine dg hF rfl rfl rfl rfl (fun w hx => gv_move rfl (hF.t rfl)) fun a hF => ?_
  refine dg hF rfl rfl rfl rfl (fun w hx => gv_move rfl (hF.t rfl)) fun a hF => ?_
  refine dg hF rfl rfl rfl rfl (fun w hx => gv_indexSl rfl u22 z5 (hF.t rfl) (hF.t rfl) (by omega)) fun a hF => ?_
  refine dg hF rfl rfl rfl rfl (fun w hx => gv_load rfl u5 rfl (hF.t rfl) (cell_ix ((hbv.ext (((hS.ext hx)).toExt (nw_cons rfl nw_nil))).cellB k (by omega)) (by omega))) fun a hF => ?_
  refine dg hF rfl rfl rfl rfl (fun w hx => gv_b_xor rfl (hF.t rfl) (hF.t rfl)) fun a hF => ?_
  refine dw_fl rfl ?_
  refine dw_nil ⟨fo_build1 rfl u22 Tryd.ty5 (hF.t rfl), fun a w v hR hA hx => ?_⟩
  obtain ⟨one, rfl, hR1, hR2⟩ := hR
  replace hF := hA _ hF
  replace hS := hS.float hx hR1 hR2
  clear hA hx hR1 hR2
  have hR : Rd w (.slice (some ⟨one, 0, none⟩) 1 1) [vB (al.getD k 0 ^^^ bl.getD k 0)] := hS.rdOf (k := 0) rfl 0 1 1 (by simp) (by omega) (by omega)
  refine run_stp (by kernel_rfl) rfl (stp_append (ob := ob) (xs := (xr al bl k).map vB) (pad := pad) (k := 1) hF (wanted_none rfl) rfl rfl rfl u22 Tryd.ty5 rfl (by rw [List.length_map, xr_len]; exact hF.t rfl) (hF.t rfl) hS rfl (fun h => ⟨by rw [(hob h).1]; rfl, (hob h).2⟩) (by rw [List.length_map, xr_len]; exact hcap) hR (one_B [_]) (by simp [xr_len]; omega) (by simp [xr_len]; omega) fun ob pad a w hF hob hcap hS => ?_)
  simp only [List.length_map, xr_len, List.length_cons, List.length_nil, Nat.zero_add, xr_app, List.map_eq_nil_iff] at hF hS hob hcap
  refine run_stp (by kernel_rfl) rfl (stp_gv hF (wanted_none rfl) rfl rfl (gv_assign rfl (hF.t rfl)) fun a hF => ?_)
  refine run_done (by decide) ?_
  refine block_normal ?_
  refine tN (hKq7 _ _ ?_)
  refine wR ?_
  refine wg hF rfl rfl rfl (gv_move rfl (hF.t rfl)) fun a hF => ?_
  refine wg hF rfl rfl rfl (gv_nadd (n := 1) rfl (hF.t rfl) rfl (by omega)) fun a hF => ?_
  refine wg hF rfl rfl rfl (gv_assign rfl (hF.t rfl)) fun a hF => ?_
  refine wN ?_
  refine then_normal ?_
  exact ⟨n - 1, by omega, k + 1, ob, pad, by omega, by omega, fun h => absurd (congrArg List.length (hob h).1) (by simp [xr_len]), hcap, hF.sub ⟨rfl, rfl, rfl, rfl, trivial⟩, hS.drop rfl⟩
 ·
  refine wp_exit ?_
  refine then_exit ?_
  refine then_exit ?_
  refine block_exit ?_
  refine tN (hKq3 _ _ ?_)
  refine wK fun Kq8 hKq8 => ?_
  refine wR ?_
  refine wg hF rfl rfl rfl (gv_move rfl (hF.t rfl)) fun a hF => ?_
  refine wg hF rfl rfl rfl (gv_assign rfl (hF.t rfl)) fun a hF => ?_
  refine wN ?_
  refine tN (hKq8 _ _ ?_)
  refine wp_ret ?_
  refine ret1 (fn := Tryd.f73) (t := 4) hF rfl rfl ?_
  obtain rfl : k = al.length := by omega
  exact ⟨_, rfl, rd_own hS List.mem_cons_self (nw_cons rfl nw_nil) (fun h => ⟨List.length_eq_zero_iff.1 (by rw [xr_len, (hob h).1]), (hob h).2⟩) (xr_len _ _ _) hcap, hS.toExt (nw_cons rfl nw_nil)⟩
set_option maxHeartbeats 1000000 in
theorem rbytes_ok {kv cv : Value} {kl cl : List UInt8} {n : Nat} {w0 : World} (hkv : Rd w0 kv (kl.map vB)) (hcv : Rd w0 cv (cl.map vB)) (hk : kl.length = 16) (hc : cl.length = 16) (hn : n ≤ 1099511627776) :
  Calls Tryd.prog 72 #[kv, cv, vI n] w0 (RetRd w0 (byts kl cl n)) := by
 obtain ⟨Ak, ck, rfl, hk1, hk2, hkc⟩ := hkv.isB
 obtain ⟨Ac, cc, rfl, hc1, hc2, hcc⟩ := hcv.isB
 obtain ⟨bk, ok, rfl, hkc⟩ := hkc (by omega)
 obtain ⟨bc, oc, rfl, hcc⟩ := hcc (by omega)
 rw [hk] at hkv hk1 hkc ⊢
 rw [hc] at hcv hc1 hcc ⊢
 refine calls_start 40 Tryd.func72 rfl Tryd.ntmps72 rfl fun a hF => ?_
 have hS := St.refl w0
 refine wK fun Kq1 hKq1 => ?_
 refine wR ?_
 refine wg hF rfl rfl rfl (gv_assign rfl (ev_const _ _)) fun a hF => ?_
 refine wN ?_
 refine tN (hKq1 _ _ ?_)
 refine wK fun Kq2 hKq2 => ?_
 refine wR ?_
 refine wg hF rfl rfl rfl (gv_move rfl (hF.t rfl)) fun a hF => ?_
 refine wg hF rfl rfl rfl (gv_toArr rfl u129 (hF.t rfl) (by omega)) fun a hF => ?_
 refine wg hF rfl rfl rfl (gv_loadAgg (vs := cl.map vB) rfl u129 rfl (z129.trans (congrArg some (by simp [hc]))) (hF.t rfl) (fun j u hu => (hcv.ext (hS.toExt nw_nil)).rdcell hu)) fun a hF => ?_
 refine wpList_stp (stp_alloc hF (wanted_none rfl) rfl rfl rfl Tryd.zv129 rfl hS fun c a w hF hS => ?_)
 refine wpList_stp (stp_storeAll hF (wanted_none rfl) rfl rfl (z129.trans (congrArg some (by simp [hc]))) (hF.t rfl) (hF.t rfl) (one_B _) hS (k := 0) rfl (by simp [hc]) fun w hS => ?_)
 refine wN ?_
 refine tN (hKq2 _ _ ?_)
 refine wK fun Kq3 hKq3 => ?_
 refine wR ?_
 refine wg hF rfl rfl rfl (gv_assign rfl (ev_const _ _)) fun a hF => ?_
 refine wN ?_
 refine tN (hKq3 _ _ ?_)
 refine wK fun Kq4 hKq4 => ?_
 refine wp_block ?_
 replace hS := hS.addNil (blk 5 ([] ++ []))
 refine wp_loop_n (fun q a w => ∃ m ob pad, m ≤ (n + 15) / 16 ∧ q = (n + 15) / 16 - m ∧ (ob = none → m = 0 ∧ pad = []) ∧ 16 * m + pad.length ≤ 9223372036854775807 ∧ Fr 40 a [(0, .slice (some ⟨bk, ok, none⟩) 16 ck), (2, vI n), (7, .pointer (some ⟨c, 0, none⟩)), (8, ownV ob (16 * m) (16 * m + pad.length))] ∧ St w0 w [⟨true, ob, blk 5 ((bB kl cl m).map vB ++ pad)⟩, ⟨true, some c, blkB 129 (cI cl m)⟩]) ((n + 15) / 16) ⟨0, none, [], by omega, by omega, fun _ => ⟨rfl, rfl⟩, by simp, hF.sub ⟨rfl, rfl, rfl, rfl, trivial⟩, hS⟩ ?_
 rintro q a w ⟨m, ob, pad, hm, hq, hob, hcap, hF, hS⟩
 refine wK fun Kq5 hKq5 => ?_
 refine wK fun Kq6 hKq6 => ?_
 refine wR ?_
 refine wg hF rfl rfl rfl (gv_move rfl (hF.t rfl)) fun a hF => ?_
 refine wg hF rfl rfl rfl (gv_lenOwn rfl u22 (hF.t rfl) (fun h => by rw [(hob h).1])) fun a hF => ?_
 refine wg hF rfl rfl rfl (gv_move rfl (hF.t rfl)) fun a hF => ?_
 refine wg hF rfl rfl rfl (gv_lss rfl (hF.t rfl) (hF.t rfl)) fun a hF => ?_
 refine wN ?_
 refine tN (hKq6 _ _ ?_)
 refine cond_dec (hF.t rfl) (fun h17 => ?_) (fun h17 => ?_)
 ·
  refine wp_skip ?_
  refine tN (hKq5 _ _ ?_)
  refine wp_block ?_
  refine wK fun Kq7 hKq7 => ?_
  refine wR ?_
  refine wg hF rfl rfl rfl (gv_move rfl (hF.t rfl)) fun a hF => ?_
  refine wg hF rfl rfl rfl (gv_loadAll rfl u129 rfl (z129.trans (congrArg some (by simp [cI_len hc]))) (hF.t rfl) hS (k := 1) rfl) fun a hF => ?_
  refine wpList_stp (stp_call hF (wanted_none rfl) rfl rfl Tryd.ok89 rfl (Evs.cons (hF.t rfl) (Evs.cons (hF.t rfl) Evs.nil)) (rblock_any (hkv.ext (hS.toExt (nw_cons rfl (nw_cons rfl nw_nil)))) hk (cI_len hc m)) fun e w h => ?_)
  obtain ⟨rfl, hx⟩ := h
  refine ⟨_, rfl, fun a hF => ?_⟩
  replace hS := hS.ext hx
  clear hx
  refine wpList_stp (stp_alloc hF (wanted_none rfl) rfl rfl rfl Tryd.zv129 rfl hS fun bb a w hF hS => ?_)
  refine wpList_stp (stp_storeAll hF (wanted_none rfl) rfl rfl (z129.trans (congrArg some (by simp [rblk_len]))) (hF.t rfl) (hF.t rfl) (one_B _) hS (k := 0) rfl (by simp [rblk_len]) fun w hS => ?_)
  refine wN ?_
  refine tN (hKq7 _ _ ?_)
  refine wK fun Kq8 hKq8 => ?_
  refine wR ?_
  refine wg hF rfl rfl rfl (gv_move rfl (hF.t rfl)) fun a hF => ?_
  refine wg hF rfl rfl rfl (gv_sliceArr rfl u129 z5 (hF.t rfl)) fun a hF => ?_
  have hR : Rd w (.slice (some ⟨bb, 0, none⟩) 16 16) ((rblk kl (cI cl m)).map vB) := rd_blkB hS List.mem_cons_self (rblk_len _ _) (by omega)
  refine wpList_stp (stp_append (ob := ob) (xs := (bB kl cl m).map vB) (pad := pad) (k := 1) hF (wanted_none rfl) rfl rfl rfl u22 Tryd.ty5 rfl (by rw [List.length_map, bB_len]; exact hF.t rfl) (hF.t rfl) hS rfl (fun h => ⟨List.length_eq_zero_iff.1 (by rw [List.length_map, bB_len, (hob h).1]), (hob h).2⟩) (by rw [List.length_map, bB_len]; exact hcap) hR (one_B _) (by simp [bB_len, rblk_len]; omega) (by simp [bB_len, rblk_len]; omega) fun ob pad a w hF hob hcap hS => ?_)
  simp only [List.length_map, bB_len, rblk_len, bB_app, List.map_eq_nil_iff, show 16 * m + 16 = 16 * (m + 1) from rfl] at hF hS hob hcap
  refine wg hF rfl rfl rfl (gv_assign rfl (hF.t rfl)) fun a hF => ?_
  refine wN ?_
  refine tN (hKq8 _ _ ?_)
  refine wK fun Kq9 hKq9 => ?_
  refine wR ?_
  refine wg hF rfl rfl rfl (gv_assign rfl (ev_const _ _)) fun a hF => ?_
  refine wN ?_
  refine tN (hKq9 _ _ ?_)
  refine wp_block ?_
  refine wp_loop_n (fun p a w => ∃ j D, j ≤ 16 ∧ p = j ∧ D.length = 16 ∧ incl D j = incC (cI cl m) ∧ Fr 40 a [(0, .slice (some ⟨bk, ok, none⟩) 16 ck), (2, vI n), (7, .pointer (some ⟨c, 0, none⟩)), (8, ownV ob (16 * (m + 1)) (16 * (m + 1) + pad.length)), (10, ctr j)] ∧ St w0 w [⟨true, ob, blk 5 ((bB kl cl (m + 1)).map vB ++ pad)⟩, ⟨true, some c, blkB 129 D⟩]) 16 ⟨16, cI cl m, by omega, rfl, cI_len hc m, rfl, hF.sub ⟨rfl, rfl, rfl, rfl, rfl, trivial⟩, hS.drop rfl⟩ ?_
  rintro p a w ⟨j, D, hj, hp, hCj, hinc, hF, hS⟩
  refine wK fun Kq10 hKq10 => ?_
  refine wK fun Kq11 hKq11 => ?_
  refine wR ?_
  refine wg hF rfl rfl rfl (gv_move rfl (hF.t rfl)) fun a hF => ?_
  refine wg hF rfl rfl rfl (gv_geq rfl (hF.t rfl) (ev_const _ _)) fun a hF => ?_
  refine wN ?_
  refine tN (hKq11 _ _ ?_)
  refine cond_dec (hF.t rfl) (fun h25 => ?_) (fun h25 => ?_)
  ·
   obtain ⟨j, rfl⟩ : ∃ i, j = i + 1 := ⟨j - 1, by unfold ctr at *; omega⟩
   replace hF : Fr 40 a [(0, .slice (some ⟨bk, ok, none⟩) 16 ck), (2, vI n), (7, .pointer (some ⟨c, 0, none⟩)), (8, ownV ob (16 * (m + 1)) (16 * (m + 1) + pad.length)), (10, vI j)] := hF.sub ⟨rfl, rfl, rfl, rfl, congrArg some (ctr_succ j), trivial⟩
   refine wp_skip ?_
   refine tN (hKq10 _ _ ?_)
   refine wK fun Kq12 hKq12 => ?_
   refine wp_block ?_
   refine wK fun Kq13 hKq13 => ?_
   refine wR ?_
   refine wg hF rfl rfl rfl (gv_move rfl (hF.t rfl)) fun a hF => ?_
   refine wg hF rfl rfl rfl (gv_indexArr rfl u129 z5 (hF.t rfl) (hF.t rfl) (by omega)) fun a hF => ?_
   refine wg hF rfl rfl rfl (gv_load rfl u5 rfl (hF.t rfl) (cell_ix (hS.cellB (k := 1) rfl (j) (by omega)) (by omega))) fun a hF => ?_
   refine wg hF rfl rfl rfl (gv_b_add (n := 1) rfl (hF.t rfl) rfl) fun a hF => ?_
   refine wg hF rfl rfl rfl (gv_indexArr rfl u129 z5 (hF.t rfl) (hF.t rfl) (by omega)) fun a hF => ?_
   refine wpList_stp (stp_storeB (j) hF (wanted_none rfl) rfl rfl z5 (hF.t rfl) (by omega) (hF.t rfl) hS (k := 1) rfl (by omega) fun w hS => ?_)
   refine wN ?_
   refine tN (hKq13 _ _ ?_)
   refine wK fun Kq14 hKq14 => ?_
   refine wR ?_
   refine wg hF rfl rfl rfl (gv_move rfl (hF.t rfl)) fun a hF => ?_
   refine wg hF rfl rfl rfl (gv_indexArr rfl u129 z5 (hF.t rfl) (hF.t rfl) (by omega)) fun a hF => ?_
   refine wg hF rfl rfl rfl (gv_load rfl u5 rfl (hF.t rfl) (cell_ix (hS.cellB (k := 1) rfl (j) (by rw [List.length_set]; omega)) (by omega))) fun a hF => ?_
   refine wg hF rfl rfl rfl (gv_neq rfl (hF.t rfl) (ev_const _ _)) fun a hF => ?_
   refine wN ?_
   refine tN (hKq14 _ _ ?_)
   refine cond_dec (hF.t rfl) (fun h36 => ?_) (fun h36 => ?_)
   ·
    refine wp_exit ?_
    refine block_exit_ne (by decide) ?_
    refine then_exit ?_
    refine then_exit ?_
    refine block_exit ?_
    refine block_normal ?_
    refine then_normal ?_
    rw [set_getD (by omega)] at h36
    exact ⟨q - 1, by omega, m + 1, ob, pad, by omega, by omega, fun h => absurd (congrArg List.length (hob h).1) (by simp [bB_len]), hcap, hF.sub ⟨rfl, rfl, rfl, rfl, trivial⟩, by rw [cI_succ, ← hinc, incl, if_pos (ne0 h36)]; exact hS⟩
   ·
    refine wp_skip ?_
    refine block_normal ?_
    refine tN (hKq12 _ _ ?_)
    refine wR ?_
    refine wg hF rfl rfl rfl (gv_move rfl (hF.t rfl)) fun a hF => ?_
    refine wg hF rfl rfl rfl (gv_sub rfl (hF.t rfl) (ev_const _ _) (by omega) (by omega)) fun a hF => ?_
    refine wg hF rfl rfl rfl (gv_assign rfl (hF.t rfl)) fun a hF => ?_
    refine wN ?_
    refine then_normal ?_
    rw [set_getD (by omega)] at h36
    have hz : D.getD j 0 + 1 = 0 := eq0 h36
    exact ⟨p - 1, by omega, j, D.set j (D.getD j 0 + 1), by omega, by omega, by rw [List.length_set, hCj], by rw [← hinc, incl, if_neg (fun h => h hz)], hF.sub ⟨rfl, rfl, rfl, rfl, rfl, trivial⟩, hS⟩
  ·
   refine wp_exit ?_
   refine then_exit ?_
   refine then_exit ?_
   refine block_exit ?_
   refine block_normal ?_
   refine then_normal ?_
   obtain rfl : j = 0 := by unfold ctr at *; omega
   exact ⟨q - 1, by omega, m + 1, ob, pad, by omega, by omega, fun h => absurd (congrArg List.length (hob h).1) (by simp [bB_len]), hcap, hF.sub ⟨rfl, rfl, rfl, rfl, trivial⟩, by rw [cI_succ, ← hinc]; exact hS⟩
 ·
  refine wp_exit ?_
  refine then_exit ?_
  refine then_exit ?_
  refine block_exit ?_
  refine tN (hKq4 _ _ ?_)
  refine wK fun Kq15 hKq15 => ?_
  refine wR ?_
  refine wg hF rfl rfl rfl (gv_move rfl (hF.t rfl)) fun a hF => ?_
  refine wg hF rfl rfl rfl (gv_move rfl (hF.t rfl)) fun a hF => ?_
  refine wg hF rfl rfl rfl (gv_sliceHiOwn rfl u22 z5 (hF.t rfl) (fun h => by rw [(hob h).1, (hob h).2]; exact ⟨rfl, rfl⟩) (hF.t rfl) (by omega)) fun a hF => ?_
  refine wg hF rfl rfl rfl (gv_assign rfl (hF.t rfl)) fun a hF => ?_
  refine wN ?_
  refine tN (hKq15 _ _ ?_)
  refine wp_ret ?_
  refine ret1 (fn := Tryd.f72) (t := 6) hF rfl rfl ?_
  obtain rfl : m = (n + 15) / 16 := by omega
  exact ⟨_, rfl, rd_own_take hS List.mem_cons_self (nw_cons rfl (nw_cons rfl nw_nil)) (fun h => ⟨List.length_eq_zero_iff.1 (by rw [bB_len, (hob h).1]), (hob h).2⟩) (bB_len _ _ _) hcap (by omega), hS.toExt (nw_cons rfl (nw_cons rfl nw_nil))⟩
end Go.Proofs.YtfhalnobaeogkaaDoor
set_option linter.unusedVariables false
set_option linter.unusedSimpArgs false
namespace Go.Proofs.YtfhalnobaeogkaaDoor
open Go Go.RowKit Go.Fw
theorem getD_ne {l : List UInt8} {i j : Nat} {x : UInt8} (h : i ≠ j) : (l.set i x).getD j 0 = l.getD j 0 := by
 simp [List.getD_eq_getElem?_getD, List.getElem?_set, h]
theorem ext_getD {l l' : List UInt8} (h : l.length = l'.length) (hh : ∀ i, i < l.length → l.getD i 0 = l'.getD i 0) : l = l' := by
 apply List.ext_getElem h
 intro i h1 h2
 have := hh i h1
 simpa [List.getD_eq_getElem?_getD, h1, h2] using this
theorem getD_drp {l : List UInt8} {o i : Nat} : (l.drop o).getD i 0 = l.getD (o + i) 0 := by simp [List.getD_eq_getElem?_getD]
theorem kst_add (K : List UInt8) (s : List UInt8 × List UInt8) (n : Nat) : ∀ m, kst K (kst K s n) m = kst K s (n + m)
 | 0 => rfl
 | m + 1 => by rw [kst_succ, kst_add K s n m]; rfl
theorem kby_add (K : List UInt8) (s : List UInt8 × List UInt8) (n m : Nat) : kby K (kst K s n) m = kby K s (n + m) := by rw [kby, kst_add]; rfl
theorem outT_old (K : List UInt8) (s : List UInt8 × List UInt8) (bl : List UInt8) : ∀ k j, k ≤ j → (outT K s bl k).getD j 0 = bl.getD j 0
 | 0, _, _ => rfl
 | k + 1, j, h => by rw [outT_succ, getD_ne (by omega), outT_old K s bl k j (by omega)]
def sameN (al bl : List UInt8) : Nat → Nat
 | 0 => al.length ^^^ bl.length
 | i + 1 => sameN al bl i ||| (al.getD i 0 ^^^ bl.getD i 0).toNat
theorem sameN_lt {al bl : List UInt8} (h1 : al.length < 2 ^ 50) (h2 : bl.length < 2 ^ 50) : ∀ i, sameN al bl i < 2 ^ 50
 | 0 => Nat.xor_lt_two_pow h1 h2
 | i + 1 => Nat.or_lt_two_pow (sameN_lt h1 h2 i) (Nat.lt_of_lt_of_le (UInt8.toNat_lt _) (by decide))
theorem nxor_zero {a b : Nat} : a ^^^ b = 0 ↔ a = b := by
 constructor
 ·
  intro h
  have : a ^^^ (a ^^^ b) = b := by rw [← Nat.xor_assoc, Nat.xor_self, Nat.zero_xor]
  rw [h, Nat.xor_zero] at this
  exact this
 ·
  rintro rfl
  exact Nat.xor_self a
theorem sameN_zero {al bl : List UInt8} : ∀ i, sameN al bl i = 0 ↔ al.length = bl.length ∧ ∀ j, j < i → al.getD j 0 = bl.getD j 0
 | 0 => by
  rw [sameN, nxor_zero]
  exact ⟨fun h => ⟨h, fun j hj => absurd hj (by omega)⟩, fun h => h.1⟩
 | i + 1 => by
  rw [sameN, Nat.or_eq_zero_iff, sameN_zero i]
  have hx : (al.getD i 0 ^^^ bl.getD i 0).toNat = 0 ↔ al.getD i 0 = bl.getD i 0 := by
   rw [show (0 : Nat) = (0 : UInt8).toNat from rfl, UInt8.toNat_inj, UInt8.xor_eq_zero_iff]
  rw [hx]
  constructor
  ·
   rintro ⟨⟨h1, h2⟩, h3⟩
   exact ⟨h1, fun j hj => (Decidable.em (j = i)).elim (fun hji => by rw [hji]; exact h3) fun hji => h2 j (by omega)⟩
  ·
   rintro ⟨h1, h2⟩
   exact ⟨⟨h1, fun j hj => h2 j (by omega)⟩, h2 i (by omega)⟩
theorem same_iff {al bl : List UInt8} : (sameN al bl (min al.length bl.length) : Int) = 0 ↔ al = bl := by
 rw [Int.natCast_eq_zero, sameN_zero]
 constructor
 ·
  rintro ⟨h1, h2⟩
  exact ext_getD h1 fun i hi => h2 i (by omega)
 ·
  rintro rfl
  exact ⟨rfl, fun _ _ => rfl⟩
theorem same_ok {av bv : Value} {al bl : List UInt8} {w0 : World} (ha : Rd w0 av (al.map vB)) (hb : Rd w0 bv (bl.map vB)) (h1 : al.length < 2 ^ 50) (h2 : bl.length < 2 ^ 50) :
  Calls Tryd.prog 51 #[av, bv] w0 fun e w' => e = .returned (.bool (decide (al = bl))) ∧ Ext w0 w' := by
 obtain ⟨Aa, ca, rfl, ha1, ha2, ha3⟩ := ha.isB
 obtain ⟨Ab, cb, rfl, hb1, hb2, hb3⟩ := hb.isB
 have hlt := sameN_lt h1 h2
 refine calls_start 35 Tryd.func51 rfl Tryd.ntmps51 rfl fun a hF => ?_
 have hS := St.refl w0
 refine wK fun Kq1 hKq1 => ?_
 refine wR ?_
 refine wg hF rfl rfl rfl (gv_assign rfl (ev_const _ _)) fun a hF => ?_
 refine wN ?_
 refine tN (hKq1 _ _ ?_)
 refine wK fun Kq2 hKq2 => ?_
 refine wR ?_
 refine wg hF rfl rfl rfl (gv_move rfl (hF.t rfl)) fun a hF => ?_
 refine wg hF rfl rfl rfl (gv_len rfl u22 (hF.t rfl)) fun a hF => ?_
 refine wg hF rfl rfl rfl (gv_move rfl (hF.t rfl)) fun a hF => ?_
 refine wg hF rfl rfl rfl (gv_len rfl u22 (hF.t rfl)) fun a hF => ?_
 refine wg hF rfl rfl rfl (gv_n_xor rfl (hF.t rfl) (hF.t rfl) (by omega) (by omega)) fun a hF => ?_
 refine wg hF rfl rfl rfl (gv_assign rfl (hF.t rfl)) fun a hF => ?_
 refine wN ?_
 refine tN (hKq2 _ _ ?_)
 refine wK fun Kq3 hKq3 => ?_
 refine wK fun Kq4 hKq4 => ?_
 refine wR ?_
 refine wg hF rfl rfl rfl (gv_move rfl (hF.t rfl)) fun a hF => ?_
 refine wg hF rfl rfl rfl (gv_len rfl u22 (hF.t rfl)) fun a hF => ?_
 refine wg hF rfl rfl rfl (gv_move rfl (hF.t rfl)) fun a hF => ?_
 refine wg hF rfl rfl rfl (gv_len rfl u22 (hF.t rfl)) fun a hF => ?_
 refine wg hF rfl rfl rfl (gv_nmin rfl (hF.t rfl) (hF.t rfl)) fun a hF => ?_
 refine wg hF rfl rfl rfl (gv_move rfl (ev_const _ _)) fun a hF => ?_
 refine wN ?_
 refine tN (hKq4 _ _ ?_)
 refine wp_block ?_
 refine wp_loop_n (fun n a w => ∃ i, i ≤ min al.length bl.length ∧ n = min al.length bl.length - i ∧ Fr 35 a [(0, .slice Aa al.length ca), (1, .slice Ab bl.length cb), (5, vI (sameN al bl i)), (16, vI (min al.length bl.length)), (17, vI i)] ∧ St w0 w []) (min al.length bl.length) ⟨0, by omega, by omega, hF.sub ⟨rfl, rfl, rfl, rfl, rfl, trivial⟩, hS⟩ ?_
 rintro n a w ⟨i, hi, hn, hF, hS⟩
 refine wK fun Kq5 hKq5 => ?_
 refine wR ?_
 refine wg hF rfl rfl rfl (gv_lss rfl (hF.t rfl) (hF.t rfl)) fun a hF => ?_
 refine wN ?_
 refine tN (hKq5 _ _ ?_)
 refine wK fun Kq6 hKq6 => ?_
 refine cond_dec (hF.t rfl) (fun h18 => ?_) (fun h18 => ?_)
 ·
  obtain ⟨ba, oa, rfl, _⟩ := ha3 (by omega)
  obtain ⟨bb, ob, rfl, _⟩ := hb3 (by omega)
  refine wp_skip ?_
  refine tN (hKq6 _ _ ?_)
  refine wK fun Kq7 hKq7 => ?_
  refine wp_block ?_
  refine wK fun Kq8 hKq8 => ?_
  refine wR ?_
  refine wg hF rfl rfl rfl (gv_move rfl (hF.t rfl)) fun a hF => ?_
  refine wg hF rfl rfl rfl (gv_assign rfl (hF.t rfl)) fun a hF => ?_
  refine wN ?_
  refine tN (hKq8 _ _ ?_)
  refine Fw.wp_region_draw (by kernel_rfl) fun w hx => ?_
  replace hS := hS.ext hx
  clear hx
  refine run_head0 (n := 12) _ hF (by kernel_rfl) rfl ?_
  refine dg hF rfl rfl rfl rfl (fun w hx => gv_move rfl (hF.t rfl)) fun a hF => ?_
  refine dg hF rfl rfl rfl rfl (fun w hx => gv_move rfl (hF.t rfl)) fun a hF => ?_
  refine dg hF rfl rfl rfl rfl (fun w hx => gv_move rfl (hF.t rfl)) fun a hF => ?_
  refine dg hF rfl rfl rfl rfl (fun w hx => gv_indexSl rfl u22 z5 (hF.t rfl) (hF.t rfl) (by omega)) fun a hF => ?_
  refine dg hF rfl rfl rfl rfl (fun w hx => gv_load rfl u5 rfl (hF.t rfl) (cell_ix ((ha.ext ((hS.ext hx).toExt nw_nil)).cellB i (by omega)) (by omega))) fun a hF => ?_
  refine dg hF rfl rfl rfl rfl (fun w hx => gv_move rfl (hF.t rfl)) fun a hF => ?_
  refine dg hF rfl rfl rfl rfl (fun w hx => gv_move rfl (hF.t rfl)) fun a hF => ?_
  refine dg hF rfl rfl rfl rfl (fun w hx => gv_indexSl rfl u22 z5 (hF.t rfl) (hF.t rfl) (by omega)) fun a hF => ?_
  refine dg hF rfl rfl rfl rfl (fun w hx => gv_load rfl u5 rfl (hF.t rfl) (cell_ix ((hb.ext ((hS.ext hx).toExt nw_nil)).cellB i (by omega)) (by omega))) fun a hF => ?_
  refine dg hF rfl rfl rfl rfl (fun w hx => gv_b_xor rfl (hF.t rfl) (hF.t rfl)) fun a hF => ?_
  refine dg hF rfl rfl rfl rfl (fun w hx => gv_conv_b_i rfl u5 u3 (hF.t rfl)) fun a hF => ?_
  refine dg hF rfl rfl rfl rfl (fun w hx => gv_n_or rfl (hF.t rfl) (hF.t rfl) (by have := hlt i; omega) (by have := UInt8.toNat_lt (al.getD i 0 ^^^ bl.getD i 0); omega)) fun a hF => ?_
  refine dw_nil fun a w hA hx => ?_
  replace hF := hA _ hF
  replace hS := hS.ext hx
  clear hA hx
  refine run_stp (by kernel_rfl) rfl (stp_gv hF (wanted_none rfl) rfl rfl (gv_assign rfl (hF.t rfl)) fun a hF => ?_)
  refine run_done (by decide) ?_
  refine block_normal ?_
  refine tN (hKq7 _ _ ?_)
  refine wR ?_
  refine wg hF rfl rfl rfl (gv_nadd (n := 1) rfl (hF.t rfl) rfl (by omega)) fun a hF => ?_
  refine wg hF rfl rfl rfl (gv_move rfl (hF.t rfl)) fun a hF => ?_
  refine wN ?_
  refine then_normal ?_
  exact ⟨n - 1, by omega, i + 1, by omega, by omega, hF.sub ⟨rfl, rfl, rfl, rfl, rfl, trivial⟩, hS⟩
 ·
  refine wp_exit ?_
  refine then_exit ?_
  refine then_exit ?_
  refine block_exit ?_
  refine tN (hKq3 _ _ ?_)
  refine wK fun Kq9 hKq9 => ?_
  obtain rfl : i = min al.length bl.length := by omega
  refine wR ?_
  refine wg hF rfl rfl rfl (gv_move rfl (hF.t rfl)) fun a hF => ?_
  refine wg hF rfl rfl rfl (gv_eql rfl (hF.t rfl) (ev_const _ _)) fun a hF => ?_
  refine wg hF rfl rfl rfl (gv_assign rfl (hF.t rfl)) fun a hF => ?_
  refine wN ?_
  refine tN (hKq9 _ _ ?_)
  refine wp_ret ?_
  refine ret1 (fn := Tryd.f51) (t := 4) hF rfl rfl ?_
  exact ⟨by rw [decide_eq_decide.2 (same_iff (al := al) (bl := bl))], hS.toExt nw_nil⟩
end Go.Proofs.YtfhalnobaeogkaaDoor
set_option linter.unusedVariables false
namespace Go.Proofs.YtfhalnobaeogkaaDoor
open Go Go.RowKit Go.Fw
theorem getD_set_ne {l : List UInt8} {i j : Nat} (h : i ≠ j) (x : UInt8) : (l.set i x).getD j 0 = l.getD j 0 := by
 rw [List.getD_eq_getElem?_getD, List.getElem?_set_ne h, ← List.getD_eq_getElem?_getD]
theorem cut4 {K : List UInt8} {o : Nat} (h : o + 4 ≤ K.length) : ∃ A B x y z u, A.length = o ∧ K = A ++ x :: y :: z :: u :: B := by
 refine ⟨K.take o, K.drop (o + 4), K[o], K[o + 1], K[o + 2], K[o + 3], by simp; omega, ?_⟩
 rw [← List.drop_eq_getElem_cons (i := o + 3) (by omega), ← List.drop_eq_getElem_cons (i := o + 2) (by omega), ← List.drop_eq_getElem_cons (i := o + 1) (by omega), ← List.drop_eq_getElem_cons (i := o) (by omega), List.take_append_drop]
theorem splice4 {K : List UInt8} {o : Nat} {a b c d : UInt8} (h : o + 4 ≤ K.length) : splice K o [a, b, c, d] = (((K.set o a).set (o + 1) b).set (o + 2) c).set (o + 3) d := by
 obtain ⟨A, B, x, y, z, u, hA, rfl⟩ := cut4 h
 subst hA
 unfold splice
 rw [List.take_left, show A.length + [a, b, c, d].length = A.length + 4 from rfl, List.drop_append, List.drop_eq_nil_of_le (by omega)]
 simp
theorem wst_key (kl : List UInt8) : ∀ i, i ≤ 4 → wst kl i = (K1 kl (4 * i), 1)
 | 0, _ => rfl
 | i + 1, h => by
  rw [wst_succ, wst_key kl i (by omega), wrow, if_neg (by omega)]
  simp only [win, wnew, if_pos (show i < 4 by omega)]
  rw [show 4 * (i + 1) = 4 * i + 3 + 1 by omega]
  simp only [K1, Nat.mul_comm i 4, Nat.add_zero]
theorem win_old {kl W : List UInt8} {i : Nat} (h : 4 ≤ i) (j : Nat) (hj : j < i * 4) : ∀ k, (win kl W i k).getD j 0 = W.getD j 0
 | 0 => rfl
 | k + 1 => by rw [win, getD_set_ne (by omega), win_old h j hj k]
theorem wnew_old {kl W : List UInt8} {i : Nat} (h : 4 ≤ i) (k : Nat) (q : Nat) (hq : q < 4) : wnew kl (win kl W i k) i q = wnew kl W i q := by
 unfold wnew
 rw [win_old h ((i - 4) * 4 + q) (by omega) k, win_old h ((i - 1) * 4 + q) (by omega) k, win_old h ((i - 1) * 4 + (q + 1) % 4) (by omega) k]
theorem win4 {kl W : List UInt8} {i : Nat} (h : 4 ≤ i) (hW : i * 4 + 4 ≤ W.length) : win kl W i 4 = splice W (i * 4) [wnew kl W i 0, wnew kl W i 1, wnew kl W i 2, wnew kl W i 3] := by
 rw [splice4 hW]
 simp only [win]
 have e : ∀ k q, q < 4 → wnew kl (win kl W i k) i q = wnew kl W i q := fun k q hq => wnew_old h k q hq
 have e0 := e 0 0 (by omega)
 have e1 := e 1 1 (by omega)
 have e2 := e 2 2 (by omega)
 have e3 := e 3 3 (by omega)
 simp only [win] at e0 e1 e2 e3
 rw [e1] at e2 e3
 rw [e2] at e3
 rw [e1, e2, e3]
 rfl
theorem getD_part {K : List UInt8} {o j : Nat} (hj : j < 4) : ((K.drop o).take 4).getD j 0 = K.getD (o + j) 0 := by
 simp [List.getD_eq_getElem?_getD, hj]
theorem splice_at {K : List UInt8} {o j : Nat} {a b c d : UInt8} (h : o + 4 ≤ K.length) (hj : j < 4) : (splice K o [a, b, c, d]).getD (o + j) 0 = [a, b, c, d].getD j 0 := by
 obtain ⟨A, B, x, y, z, u, hA, rfl⟩ := cut4 h
 subst hA
 unfold splice
 rw [List.take_left, List.append_assoc, List.getD_eq_getElem?_getD, List.getElem?_append_right (by omega), Nat.add_sub_cancel_left, List.getElem?_append_left (by simpa using hj), ← List.getD_eq_getElem?_getD]
theorem splice_at0 {K : List UInt8} {o : Nat} {a b c d : UInt8} (h : o + 4 ≤ K.length) : (splice K o [a, b, c, d]).getD o 0 = a := splice_at (j := 0) h (by omega)
theorem xw4 (K : List UInt8) (a b c d : UInt8) (o : Nat) : xw K [a, b, c, d] o 4 = [a ^^^ K.getD o 0, b ^^^ K.getD (o + 1) 0, c ^^^ K.getD (o + 2) 0, d ^^^ K.getD (o + 3) 0] := rfl
theorem four {t : List UInt8} (h : t.length = 4) : t = [t.getD 0 0, t.getD 1 0, t.getD 2 0, t.getD 3 0] := by
 match t, h with
 | [a, b, c, d], _ => rfl
theorem cols_step {K t : List UInt8} {r c : Nat} (ht : (cols K t r c).2.length = 4) (hK : (r + 1) * 16 + c * 4 + 4 ≤ (cols K t r c).1.length) :
  (cols K t r (c + 1)).1 = splice (cols K t r c).1 ((r + 1) * 16 + c * 4) [(cols K t r c).2.getD 0 0 ^^^ (cols K t r c).1.getD (r * 16 + c * 4) 0, (cols K t r c).2.getD 1 0 ^^^ (cols K t r c).1.getD (r * 16 + c * 4 + 1) 0, (cols K t r c).2.getD 2 0 ^^^ (cols K t r c).1.getD (r * 16 + c * 4 + 2) 0, (cols K t r c).2.getD 3 0 ^^^ (cols K t r c).1.getD (r * 16 + c * 4 + 3) 0] ∧
  ∀ j, j < 4 → (cols K t r (c + 1)).2.getD j 0 = (cols K t r (c + 1)).1.getD ((r + 1) * 16 + c * 4 + j) 0 := by
 have e := four ht
 have h1 : (cols K t r (c + 1)).2 = [(cols K t r c).2.getD 0 0 ^^^ (cols K t r c).1.getD (r * 16 + c * 4) 0, (cols K t r c).2.getD 1 0 ^^^ (cols K t r c).1.getD (r * 16 + c * 4 + 1) 0, (cols K t r c).2.getD 2 0 ^^^ (cols K t r c).1.getD (r * 16 + c * 4 + 2) 0, (cols K t r c).2.getD 3 0 ^^^ (cols K t r c).1.getD (r * 16 + c * 4 + 3) 0] := by
  show xw (cols K t r c).1 (cols K t r c).2 (r * 16 + c * 4) 4 = _
  rw [← xw4, ← e]
 have h2 : (cols K t r (c + 1)).1 = splice (cols K t r c).1 ((r + 1) * 16 + c * 4) (cols K t r (c + 1)).2 := rfl
 refine ⟨by rw [h2, h1], fun j hj => ?_⟩
 rw [h2, h1, splice_at hK hj]
theorem wst_cols (kl : List UInt8) {r : Nat} (hr : r < 10) (h0 : wst kl (4 + 4 * r) = (keysR kl r, rcon r)) : ∀ c, c < 4 →
  wst kl (4 + 4 * r + (c + 1)) = ((cols (keysR kl r) (t0 (keysR kl r) r (rcon r)) r (c + 1)).1, rcon (r + 1)) := by
 intro c hc
 have hl := fun c => cols_len (t := t0 (keysR kl r) r (rcon r)) (r := r) (keysR_len kl r (by omega)) rfl hr c
 induction c with
 | zero =>
  have hK := keysR_len kl r (by omega)
  obtain ⟨h1, h2⟩ := cols_step (K := keysR kl r) (t := t0 (keysR kl r) r (rcon r)) (r := r) (c := 0) rfl (by show _ ≤ (keysR kl r).length; rw [hK]; omega)
  rw [h1, wst_succ, Nat.add_zero, h0, wrow, if_pos (by omega)]
  show (_, dbl (rcon r)) = (_, rcon (r + 1))
  congr 1
  simp only
  rw [win4 (by omega) (by rw [hK]; omega), splice_at0 (by rw [hK]; omega)]
  rw [splice4 (by rw [hK]; omega)]
  show _ = splice (keysR kl r) _ _
  rw [splice4 (by rw [hK]; omega), show (4 + 4 * r) * 4 = (r + 1) * 16 + 0 * 4 by omega]
  have hs : ∀ (l : List UInt8) (o : Nat) (a b c d x : UInt8), ((((l.set o a).set (o + 1) b).set (o + 2) c).set (o + 3) d).set o x = (((l.set o x).set (o + 1) b).set (o + 2) c).set (o + 3) d := fun l o a b c d x => by
   rw [List.set_comm _ _ (by omega : o + 3 ≠ o), List.set_comm _ _ (by omega : o + 2 ≠ o), List.set_comm _ _ (by omega : o + 1 ≠ o), List.set_set]
  rw [hs]
  simp only [wnew, if_neg (show ¬ 4 + 4 * r < 4 by omega), if_neg (show ¬ 0 < (4 + 4 * r) % 4 by omega), t0, cols, List.getD_cons_zero, List.getD_cons_succ, getD_part (show 0 < 4 by omega), getD_part (show 1 < 4 by omega), getD_part (show 2 < 4 by omega), getD_part (show 3 < 4 by omega)]
  simp only [show (4 + 4 * r - 4) * 4 = r * 16 + 0 * 4 by omega, show (4 + 4 * r - 1) * 4 = r * 16 + 12 by omega, Nat.zero_add, Nat.add_zero, Nat.reduceMod, Nat.reduceAdd]
  ac_rfl
 | succ c ih =>
  have ih := ih (by omega)
  obtain ⟨hK, ht⟩ := hl (c + 1) (by omega)
  have hK0 := (hl c (by omega)).1
  obtain ⟨h1, -⟩ := cols_step (K := keysR kl r) (t := t0 (keysR kl r) r (rcon r)) (r := r) (c := c + 1) ht (by rw [hK]; omega)
  obtain ⟨-, h2⟩ := cols_step (K := keysR kl r) (t := t0 (keysR kl r) r (rcon r)) (r := r) (c := c) (hl c (by omega)).2 (by rw [hK0]; omega)
  rw [h1, show 4 + 4 * r + (c + 1 + 1) = (4 + 4 * r + (c + 1)) + 1 by omega, wst_succ, ih, wrow, if_neg (by omega)]
  congr 1
  simp only
  generalize hKK : (cols (keysR kl r) (t0 (keysR kl r) r (rcon r)) r (c + 1)).1 = KK at *
  rw [win4 (by omega) (by rw [hK]; omega), show (4 + 4 * r + (c + 1)) * 4 = (r + 1) * 16 + (c + 1) * 4 by omega]
  simp only [wnew, if_neg (show ¬ 4 + 4 * r + (c + 1) < 4 by omega), if_pos (show 0 < (4 + 4 * r + (c + 1)) % 4 by omega), h2 0 (by omega), h2 1 (by omega), h2 2 (by omega), h2 3 (by omega)]
  simp only [show (4 + 4 * r + (c + 1) - 4) * 4 = r * 16 + (c + 1) * 4 by omega, show (4 + 4 * r + (c + 1) - 1) * 4 = (r + 1) * 16 + c * 4 by omega, Nat.add_zero]
  congr 1
  simp only [UInt8.xor_comm]
theorem wst_keysR (kl : List UInt8) : ∀ r, r ≤ 10 → wst kl (4 + 4 * r) = (keysR kl r, rcon r)
 | 0, _ => wst_key kl 4 (by omega)
 | r + 1, h => by
  have := wst_cols kl (by omega) (wst_keysR kl r (by omega)) 3 (by omega)
  rw [show 4 + 4 * (r + 1) = 4 + 4 * r + (3 + 1) by omega, this]
  rfl
theorem wks_keys (kl : List UInt8) : wks kl = keys kl := by
 have := wst_keysR kl 10 (by omega)
 show (wst kl (4 + 4 * 10)).1 = _
 rw [this]; rfl
def colM (K m : List UInt8) (r : Nat) : Nat → List UInt8
 | 0 => List.replicate 16 0
 | c + 1 => addl K (mixl (colU (subl m (colM K m r c) c 4) c) (allU (colU (subl m (colM K m r c) c 4) c)) (subl m (colM K m r c) c 4) c 4) r c 4
def colP (K m : List UInt8) (r : Nat) : Nat → List UInt8
 | 0 => List.replicate 16 0
 | c + 1 => addl K (subl m (colP K m r c) c 4) r c 4
theorem colT_M {K m : List UInt8} {r : Nat} (h : r < 10) : ∀ c, colT K m r c = colM K m r c
 | 0 => rfl
 | c + 1 => by rw [colT, mixS, if_pos h, colT_M h c]; rfl
theorem colT_P {K m : List UInt8} {r : Nat} (h : ¬ r < 10) : ∀ c, colT K m r c = colP K m r c
 | 0 => rfl
 | c + 1 => by rw [colT, mixS, if_neg h, colT_P h c]; rfl
def mixb (p q s t : UInt8) : UInt8 := dbl p ^^^ (dbl q ^^^ q) ^^^ s ^^^ t
def vvm (K : List UInt8) (r : Nat) (u : List UInt8) : Nat → List UInt8
 | 0 => List.replicate 16 0
 | i + 1 => (vvm K r u i).set i (mixb (u.getD i 0) (u.getD (i - i % 4 + (i + 1) % 4) 0) (u.getD (i - i % 4 + (i + 2) % 4) 0) (u.getD (i - i % 4 + (i + 3) % 4) 0) ^^^ K.getD ((4 * r + i / 4) * 4 + i % 4) 0)
theorem vv_vvm {K u : List UInt8} {r : Nat} (h : r < 10) : ∀ i, vv K r u i = vvm K r u i
 | 0 => rfl
 | i + 1 => by rw [vv, vvm, vv_vvm h i, mxv, if_pos h]; rfl
def vvp (K : List UInt8) (r : Nat) (u : List UInt8) : Nat → List UInt8
 | 0 => List.replicate 16 0
 | i + 1 => (vvp K r u i).set i (u.getD i 0 ^^^ K.getD ((4 * r + i / 4) * 4 + i % 4) 0)
theorem vv_vvp {K u : List UInt8} {r : Nat} (h : ¬ r < 10) : ∀ i, vv K r u i = vvp K r u i
 | 0 => rfl
 | i + 1 => by rw [vv, vvp, vv_vvp h i, mxv, if_neg h]
def mixa (a b c d p q : UInt8) : UInt8 := p ^^^ ((a ^^^ b ^^^ c ^^^ d) ^^^ dbl (p ^^^ q))
theorem dbN_xor : ∀ a, a < 256 → ∀ b, b < 256 → dbN (a ^^^ b) = dbN a ^^^ dbN b := by decide +kernel
theorem dbN_dbl : ∀ n, n < 256 → dbN n = (dbl (UInt8.ofNat n)).toNat := by decide +kernel
theorem dbl_xor (a b : UInt8) : dbl (a ^^^ b) = dbl a ^^^ dbl b := by
 apply UInt8.toNat_inj.1
 have e : ∀ x : UInt8, (dbl x).toNat = dbN x.toNat := fun x => by rw [dbN_dbl _ x.toNat_lt, UInt8.ofNat_toNat]
 rw [UInt8.toNat_xor, e, e, e, UInt8.toNat_xor, dbN_xor _ a.toNat_lt _ b.toNat_lt]
theorem mix_core (p q s t : UInt8) : mixa p q s t p q = mixb p q s t := by
 unfold mixa mixb
 rw [dbl_xor, show p ^^^ (p ^^^ q ^^^ s ^^^ t ^^^ (dbl p ^^^ dbl q)) = (p ^^^ p) ^^^ (dbl p ^^^ (dbl q ^^^ q) ^^^ s ^^^ t) by ac_rfl, UInt8.xor_self, UInt8.zero_xor]
theorem mix2 (a b c d : UInt8) : mixa a b c d b c = mixb b c d a := by
 rw [← mix_core]; unfold mixa; rw [show a ^^^ b ^^^ c ^^^ d = b ^^^ c ^^^ d ^^^ a by ac_rfl]
theorem mix3 (a b c d : UInt8) : mixa a b c d c d = mixb c d a b := by
 rw [← mix_core]; unfold mixa; rw [show a ^^^ b ^^^ c ^^^ d = c ^^^ d ^^^ a ^^^ b by ac_rfl]
theorem mix4 (a b c d : UInt8) : mixa a b c d d a = mixb d a b c := by
 rw [← mix_core]; unfold mixa; rw [show a ^^^ b ^^^ c ^^^ d = d ^^^ a ^^^ b ^^^ c by ac_rfl]
theorem colM_list (K : List UInt8) (r : Nat) (x0 x1 x2 x3 x4 x5 x6 x7 x8 x9 x10 x11 x12 x13 x14 x15 : UInt8) : colM K [x0, x1, x2, x3, x4, x5, x6, x7, x8, x9, x10, x11, x12, x13, x14, x15] r 4 = [mixa (sb x0) (sb x5) (sb x10) (sb x15) (sb x0) (sb x5) ^^^ K.getD (r * 16 + 0 * 4 + 0) 0, mixa (sb x0) (sb x5) (sb x10) (sb x15) (sb x5) (sb x10) ^^^ K.getD (r * 16 + 0 * 4 + 1) 0, mixa (sb x0) (sb x5) (sb x10) (sb x15) (sb x10) (sb x15) ^^^ K.getD (r * 16 + 0 * 4 + 2) 0, mixa (sb x0) (sb x5) (sb x10) (sb x15) (sb x15) (sb x0) ^^^ K.getD (r * 16 + 0 * 4 + 3) 0, mixa (sb x4) (sb x9) (sb x14) (sb x3) (sb x4) (sb x9) ^^^ K.getD (r * 16 + 1 * 4 + 0) 0, mixa (sb x4) (sb x9) (sb x14) (sb x3) (sb x9) (sb x14) ^^^ K.getD (r * 16 + 1 * 4 + 1) 0, mixa (sb x4) (sb x9) (sb x14) (sb x3) (sb x14) (sb x3) ^^^ K.getD (r * 16 + 1 * 4 + 2) 0, mixa (sb x4) (sb x9) (sb x14) (sb x3) (sb x3) (sb x4) ^^^ K.getD (r * 16 + 1 * 4 + 3) 0, mixa (sb x8) (sb x13) (sb x2) (sb x7) (sb x8) (sb x13) ^^^ K.getD (r * 16 + 2 * 4 + 0) 0, mixa (sb x8) (sb x13) (sb x2) (sb x7) (sb x13) (sb x2) ^^^ K.getD (r * 16 + 2 * 4 + 1) 0, mixa (sb x8) (sb x13) (sb x2) (sb x7) (sb x2) (sb x7) ^^^ K.getD (r * 16 + 2 * 4 + 2) 0, mixa (sb x8) (sb x13) (sb x2) (sb x7) (sb x7) (sb x8) ^^^ K.getD (r * 16 + 2 * 4 + 3) 0, mixa (sb x12) (sb x1) (sb x6) (sb x11) (sb x12) (sb x1) ^^^ K.getD (r * 16 + 3 * 4 + 0) 0, mixa (sb x12) (sb x1) (sb x6) (sb x11) (sb x1) (sb x6) ^^^ K.getD (r * 16 + 3 * 4 + 1) 0, mixa (sb x12) (sb x1) (sb x6) (sb x11) (sb x6) (sb x11) ^^^ K.getD (r * 16 + 3 * 4 + 2) 0, mixa (sb x12) (sb x1) (sb x6) (sb x11) (sb x11) (sb x12) ^^^ K.getD (r * 16 + 3 * 4 + 3) 0] := by kernel_rfl
theorem vvM_list (K : List UInt8) (r : Nat) (x0 x1 x2 x3 x4 x5 x6 x7 x8 x9 x10 x11 x12 x13 x14 x15 : UInt8) : vvm K r (uu [x0, x1, x2, x3, x4, x5, x6, x7, x8, x9, x10, x11, x12, x13, x14, x15] 16) 16 = [mixb (sb x0) (sb x5) (sb x10) (sb x15) ^^^ K.getD ((4 * r + 0) * 4 + 0) 0, mixb (sb x5) (sb x10) (sb x15) (sb x0) ^^^ K.getD ((4 * r + 0) * 4 + 1) 0, mixb (sb x10) (sb x15) (sb x0) (sb x5) ^^^ K.getD ((4 * r + 0) * 4 + 2) 0, mixb (sb x15) (sb x0) (sb x5) (sb x10) ^^^ K.getD ((4 * r + 0) * 4 + 3) 0, mixb (sb x4) (sb x9) (sb x14) (sb x3) ^^^ K.getD ((4 * r + 1) * 4 + 0) 0, mixb (sb x9) (sb x14) (sb x3) (sb x4) ^^^ K.getD ((4 * r + 1) * 4 + 1) 0, mixb (sb x14) (sb x3) (sb x4) (sb x9) ^^^ K.getD ((4 * r + 1) * 4 + 2) 0, mixb (sb x3) (sb x4) (sb x9) (sb x14) ^^^ K.getD ((4 * r + 1) * 4 + 3) 0, mixb (sb x8) (sb x13) (sb x2) (sb x7) ^^^ K.getD ((4 * r + 2) * 4 + 0) 0, mixb (sb x13) (sb x2) (sb x7) (sb x8) ^^^ K.getD ((4 * r + 2) * 4 + 1) 0, mixb (sb x2) (sb x7) (sb x8) (sb x13) ^^^ K.getD ((4 * r + 2) * 4 + 2) 0, mixb (sb x7) (sb x8) (sb x13) (sb x2) ^^^ K.getD ((4 * r + 2) * 4 + 3) 0, mixb (sb x12) (sb x1) (sb x6) (sb x11) ^^^ K.getD ((4 * r + 3) * 4 + 0) 0, mixb (sb x1) (sb x6) (sb x11) (sb x12) ^^^ K.getD ((4 * r + 3) * 4 + 1) 0, mixb (sb x6) (sb x11) (sb x12) (sb x1) ^^^ K.getD ((4 * r + 3) * 4 + 2) 0, mixb (sb x11) (sb x12) (sb x1) (sb x6) ^^^ K.getD ((4 * r + 3) * 4 + 3) 0] := by kernel_rfl
theorem colP_list (K : List UInt8) (r : Nat) (x0 x1 x2 x3 x4 x5 x6 x7 x8 x9 x10 x11 x12 x13 x14 x15 : UInt8) : colP K [x0, x1, x2, x3, x4, x5, x6, x7, x8, x9, x10, x11, x12, x13, x14, x15] r 4 = [sb x0 ^^^ K.getD (r * 16 + 0 * 4 + 0) 0, sb x5 ^^^ K.getD (r * 16 + 0 * 4 + 1) 0, sb x10 ^^^ K.getD (r * 16 + 0 * 4 + 2) 0, sb x15 ^^^ K.getD (r * 16 + 0 * 4 + 3) 0, sb x4 ^^^ K.getD (r * 16 + 1 * 4 + 0) 0, sb x9 ^^^ K.getD (r * 16 + 1 * 4 + 1) 0, sb x14 ^^^ K.getD (r * 16 + 1 * 4 + 2) 0, sb x3 ^^^ K.getD (r * 16 + 1 * 4 + 3) 0, sb x8 ^^^ K.getD (r * 16 + 2 * 4 + 0) 0, sb x13 ^^^ K.getD (r * 16 + 2 * 4 + 1) 0, sb x2 ^^^ K.getD (r * 16 + 2 * 4 + 2) 0, sb x7 ^^^ K.getD (r * 16 + 2 * 4 + 3) 0, sb x12 ^^^ K.getD (r * 16 + 3 * 4 + 0) 0, sb x1 ^^^ K.getD (r * 16 + 3 * 4 + 1) 0, sb x6 ^^^ K.getD (r * 16 + 3 * 4 + 2) 0, sb x11 ^^^ K.getD (r * 16 + 3 * 4 + 3) 0] := by kernel_rfl
theorem vvP_list (K : List UInt8) (r : Nat) (x0 x1 x2 x3 x4 x5 x6 x7 x8 x9 x10 x11 x12 x13 x14 x15 : UInt8) : vvp K r (uu [x0, x1, x2, x3, x4, x5, x6, x7, x8, x9, x10, x11, x12, x13, x14, x15] 16) 16 = [sb x0 ^^^ K.getD ((4 * r + 0) * 4 + 0) 0, sb x5 ^^^ K.getD ((4 * r + 0) * 4 + 1) 0, sb x10 ^^^ K.getD ((4 * r + 0) * 4 + 2) 0, sb x15 ^^^ K.getD ((4 * r + 0) * 4 + 3) 0, sb x4 ^^^ K.getD ((4 * r + 1) * 4 + 0) 0, sb x9 ^^^ K.getD ((4 * r + 1) * 4 + 1) 0, sb x14 ^^^ K.getD ((4 * r + 1) * 4 + 2) 0, sb x3 ^^^ K.getD ((4 * r + 1) * 4 + 3) 0, sb x8 ^^^ K.getD ((4 * r + 2) * 4 + 0) 0, sb x13 ^^^ K.getD ((4 * r + 2) * 4 + 1) 0, sb x2 ^^^ K.getD ((4 * r + 2) * 4 + 2) 0, sb x7 ^^^ K.getD ((4 * r + 2) * 4 + 3) 0, sb x12 ^^^ K.getD ((4 * r + 3) * 4 + 0) 0, sb x1 ^^^ K.getD ((4 * r + 3) * 4 + 1) 0, sb x6 ^^^ K.getD ((4 * r + 3) * 4 + 2) 0, sb x11 ^^^ K.getD ((4 * r + 3) * 4 + 3) 0] := by kernel_rfl
theorem round_same (K m : List UInt8) (r : Nat) (hm : m.length = 16) : colT K m r 4 = vv K r (uu m 16) 16 := by
 match m, hm with
 | [x0, x1, x2, x3, x4, x5, x6, x7, x8, x9, x10, x11, x12, x13, x14, x15], _ =>
  by_cases h : r < 10
  ·
   rw [colT_M h, colM_list, vv_vvm h, vvM_list]
   have i4 : ∀ c i, (4 * r + c) * 4 + i = r * 16 + c * 4 + i := fun c i => by omega
   simp only [i4, mix_core, mix2, mix3, mix4]
  ·
   rw [colT_P h, colP_list, vv_vvp h, vvP_list]
   have i4 : ∀ c i, (4 * r + c) * 4 + i = r * 16 + c * 4 + i := fun c i => by omega
   simp only [i4]
end Go.Proofs.YtfhalnobaeogkaaDoor
set_option linter.unusedVariables false
namespace Go.Proofs.YtfhalnobaeogkaaDoor
open Go Go.RowKit Go.Fw
theorem s0_m1 (K bl : List UInt8) : ∀ i, s0 K bl i = m1 K bl i
 | 0 => rfl
 | i + 1 => by rw [s0, m1, s0_m1 K bl i, Nat.div_add_mod' i 4]
theorem rS_blkR (K bl : List UInt8) : ∀ r, rS K bl r = blkR K bl r
 | 0 => s0_m1 K bl 16
 | r + 1 => by rw [rS_succ, blkR_succ, rS_blkR K bl r, round_same K _ (r + 1) (blkR_len K bl r)]
theorem outl_all {b m : List UInt8} (h : b.length = 16) : outl b m 16 = (List.range 16).map fun i => m.getD i 0 := setAll (g := outl b m) (fun i => rfl) h
theorem o16_all (m : List UInt8) : o16 m 16 = (List.range 16).map fun i => m.getD i 0 := setAll (g := o16 m) (fun i => rfl) List.length_replicate
theorem block_same {kl bl : List UInt8} (h : bl.length = 16) : blockF (keys kl) bl = rblk kl bl := by
 rw [blockF, rblk, outl_all h, o16_all, rS_blkR, wks_keys]
def ks (kl cl : List UInt8) (n : Nat) : UInt8 := (rblk kl (cI cl (n / 16))).getD (n % 16) 0
theorem kstep_at {kl cl : List UInt8} (hc : cl.length = 16) : ∀ n, kstep (keys kl) (kst (keys kl) (cl, []) n) = (cI cl (n / 16 + 1), (rblk kl (cI cl (n / 16))).drop (n % 16))
 | 0 => by
  show (if ([] : List UInt8).length = 0 then _ else _) = _
  rw [if_pos (show ([] : List UInt8).length = 0 from rfl)]
  show (incC cl, blockF (keys kl) cl) = (incC cl, rblk kl cl)
  rw [block_same hc]
 | n + 1 => by
  rw [kst_succ, kstep_at hc n]
  simp only [List.drop_drop]
  have hl := rblk_len kl (cI cl (n / 16))
  by_cases h : n % 16 + 1 < 16
  ·
   rw [kstep, if_neg (by simp only [List.length_drop]; omega), show (n + 1) / 16 = n / 16 by omega, show (n + 1) % 16 = n % 16 + 1 by omega]
  ·
   rw [kstep, if_pos (by simp only [List.length_drop]; omega), show (n + 1) / 16 = n / 16 + 1 by omega, show (n + 1) % 16 = 0 by omega, List.drop_zero]
   simp only
   rw [block_same (cI_len hc _), ← cI_succ]
theorem kby_at {kl cl : List UInt8} (hc : cl.length = 16) (n : Nat) : kby (keys kl) (cl, []) n = ks kl cl n := by
 rw [kby, kstep_at hc, ks]
 simp [List.getD_eq_getElem?_getD]
theorem outT_all (K : List UInt8) (s : List UInt8 × List UInt8) (bl : List UInt8) : outT K s bl bl.length = (List.range bl.length).map fun i => bl.getD i 0 ^^^ kby K s i :=
 by
 refine setAll (g := outT K s bl) (f := fun i => bl.getD i 0 ^^^ kby K s i) (n := bl.length) (fun i => ?_) (outT_len K s bl 0)
 rw [outT_succ, outT_old K s bl i i (Nat.le_refl i)]
 simp only [kby]
def turned (kl cl : List UInt8) (n : Nat) (bl : List UInt8) : List UInt8 := (List.range bl.length).map fun i => bl.getD i 0 ^^^ ks kl cl (n + i)
theorem turned_len (kl cl : List UInt8) (n : Nat) (bl : List UInt8) : (turned kl cl n bl).length = bl.length := by simp [turned]
theorem outT_turned {kl cl : List UInt8} (hc : cl.length = 16) (n : Nat) (bl : List UInt8) : outT (keys kl) (kst (keys kl) (cl, []) n) bl bl.length = turned kl cl n bl := by
 rw [outT_all]
 unfold turned
 apply List.map_congr_left
 intro i _
 rw [kby_add, kby_at hc]
theorem turned_at {kl cl : List UInt8} {n : Nat} {bl : List UInt8} {i : Nat} (h : i < bl.length) : (turned kl cl n bl).getD i 0 = bl.getD i 0 ^^^ ks kl cl (n + i) := by
 simp [turned, List.getD_eq_getElem?_getD, h]
theorem getD_app {a b : List UInt8} {i : Nat} : (a ++ b).getD i 0 = if i < a.length then a.getD i 0 else b.getD (i - a.length) 0 := by
 simp only [List.getD_eq_getElem?_getD, List.getElem?_append]
 split <;> rfl
theorem bB_at {kl cl : List UInt8} : ∀ m n, n < 16 * m → (bB kl cl m).getD n 0 = ks kl cl n
 | 0, _, h => absurd h (by omega)
 | m + 1, n, h => by
  rw [bB, getD_app, bB_len]
  split
  ·
   rename_i h'; exact bB_at m n h'
  ·
   rename_i h'
   rw [ks, show n / 16 = m by omega, show n - 16 * m = n % 16 by omega]
theorem byts_at {kl cl : List UInt8} {n i : Nat} (h : i < n) : (byts kl cl n).getD i 0 = ks kl cl i := by
 rw [byts, List.getD_eq_getElem?_getD, List.getElem?_take, if_pos h, ← List.getD_eq_getElem?_getD, bB_at _ _ (by omega)]
end Go.Proofs.YtfhalnobaeogkaaDoor
set_option linter.unusedVariables false
set_option linter.unusedSimpArgs false
namespace Go.Proofs.YtfhalnobaeogkaaDoor
open Go Go.RowKit Go.Fw
theorem z64 : (Tryd.prog.info? 64).map (·.size) = some 3 := by kernel_rfl
theorem z148 : (Tryd.prog.info? 148).map (·.size) = some 8 := by kernel_rfl
theorem z150 : (Tryd.prog.info? 150).map (·.size) = some 80 := by kernel_rfl
theorem Tryd.zv64 : (Tryd.prog.info? 64).map (·.zero) = some (some (Value.agg ((List.replicate 3 (0 : Nat)).map vI).toArray)) := by kernel_rfl
theorem Tryd.zv147 : (Tryd.prog.info? 147).map (·.zero) = some (some (Value.agg ((List.replicate 12 (0 : Nat)).map vI).toArray)) := by kernel_rfl
theorem Tryd.zv148 : (Tryd.prog.info? 148).map (·.zero) = some (some (Value.agg ((List.replicate 8 (0 : UInt64)).map vD).toArray)) := by kernel_rfl
theorem Tryd.zv150 : (Tryd.prog.info? 150).map (·.zero) = some (some (Value.agg ((List.replicate 80 (0 : UInt64)).map vD).toArray)) := by kernel_rfl
theorem Tryd.ok93 : CallOk Tryd.prog 93 := ⟨_, Tryd.func93, by kernel_rfl, by kernel_rfl⟩
theorem sh8 (a : UInt32) (b : UInt8) (h : a.toNat < 16777216) : (a <<< UInt32.ofNat 8 ||| b.toUInt32).toNat = a.toNat * 256 + b.toNat := by
 have hb := b.toNat_lt
 rw [UInt32.toNat_or, UInt32.toNat_shiftLeft, UInt8.toNat_toUInt32, show (UInt32.ofNat 8).toNat % 32 = 8 from rfl, Nat.mod_eq_of_lt (by rw [Nat.shiftLeft_eq]; omega), ← Nat.shiftLeft_add_eq_or_of_lt (by omega), Nat.shiftLeft_eq]
def Lo (A : UInt64) (a : UInt32) : Prop := A.toNat % 4294967296 = a.toNat
theorem Lo.emb (a : UInt32) : Lo a.toUInt64 a := by
 have := a.toNat_lt
 rw [Lo, UInt32.toNat_toUInt64]; omega
theorem Lo.add {A B : UInt64} {a b : UInt32} (h : Lo A a) (h' : Lo B b) : Lo (A + B) (a + b) := by
 unfold Lo at *
 rw [UInt64.toNat_add, UInt32.toNat_add]
 omega
theorem Lo.mask {A : UInt64} {a : UInt32} (h : Lo A a) : A &&& 4294967295 = a.toUInt64 := by
 apply UInt64.toNat_inj.1
 rw [UInt64.toNat_and, UInt32.toNat_toUInt64, show (4294967295 : UInt64).toNat = 2 ^ 32 - 1 from rfl, Nat.and_two_pow_sub_one_eq_mod]
 exact h
theorem shr64 (x : UInt32) (c : Nat) (hc : c < 32) : x.toUInt64 >>> UInt64.ofNat c = (x >>> UInt32.ofNat c).toUInt64 := by
 apply UInt64.toNat_inj.1
 rw [UInt64.toNat_shiftRight, UInt32.toNat_toUInt64, UInt32.toNat_toUInt64, UInt32.toNat_shiftRight, UInt32.toNat_ofNat', UInt64.toNat_ofNat']
 congr 1
 omega
theorem rot64 (x : UInt32) (n : Nat) (h0 : 0 < n) (hn : n < 32) : (x.toUInt64 >>> UInt64.ofNat n + x.toUInt64 <<< UInt64.ofNat (32 - n)) &&& 4294967295 = (rotl x (32 - n)).toUInt64 := by
 have hx := x.toNat_lt
 have hA : 0 < 2 ^ n := Nat.two_pow_pos n
 have hB : 0 < 2 ^ (32 - n) := Nat.two_pow_pos (32 - n)
 have hAB : 2 ^ n * 2 ^ (32 - n) = 4294967296 := by rw [← Nat.pow_add, show n + (32 - n) = 32 by omega]
 have hBl : 2 ^ (32 - n) ≤ 2147483648 := Nat.pow_le_pow_right (by decide) (show 32 - n ≤ 31 by omega)
 have e1 : (x.toUInt64 >>> UInt64.ofNat n).toNat = x.toNat / 2 ^ n := by
  rw [UInt64.toNat_shiftRight, UInt32.toNat_toUInt64, UInt64.toNat_ofNat', Nat.shiftRight_eq_div_pow]
  congr 2; omega
 have e2 : (x.toUInt64 <<< UInt64.ofNat (32 - n)).toNat = x.toNat * 2 ^ (32 - n) := by
  have : x.toNat * 2 ^ (32 - n) ≤ 4294967295 * 2147483648 := Nat.mul_le_mul (by omega) hBl
  rw [UInt64.toNat_shiftLeft, UInt32.toNat_toUInt64, UInt64.toNat_ofNat', show (32 - n) % 2 ^ 64 % 64 = 32 - n by omega, Nat.shiftLeft_eq, Nat.mod_eq_of_lt (by omega)]
 have hq : x.toNat / 2 ^ n < 2 ^ (32 - n) := by
  rw [Nat.div_lt_iff_lt_mul hA, Nat.mul_comm, hAB]; omega
 have hr : x.toNat % 2 ^ n < 2 ^ n := Nat.mod_lt _ hA
 have hxe : x.toNat = 2 ^ n * (x.toNat / 2 ^ n) + x.toNat % 2 ^ n := (Nat.div_add_mod _ _).symm
 generalize hQ : x.toNat / 2 ^ n = q at *
 generalize hR : x.toNat % 2 ^ n = r at *
 generalize hBg : 2 ^ (32 - n) = B at *
 generalize hAg : 2 ^ n = A at *
 have hxB : x.toNat * B = 4294967296 * q + r * B := by
  rw [hxe, Nat.add_mul, Nat.mul_right_comm, hAB]
 have hrB : r * B + q < 4294967296 := by
  have h1 : (r + 1) * B ≤ A * B := Nat.mul_le_mul_right B hr
  rw [Nat.add_mul, hAB] at h1
  omega
 apply Lo.mask
 unfold Lo
 rw [UInt64.toNat_add, e1, e2, hxB]
 have e3 : (x <<< UInt32.ofNat (32 - n)).toNat = r * B := by
  rw [UInt32.toNat_shiftLeft, UInt32.toNat_ofNat', show (32 - n) % 2 ^ 32 % 32 = 32 - n by omega, Nat.shiftLeft_eq, hBg, hxB]
  omega
 have e4 : (x >>> UInt32.ofNat (32 - (32 - n))).toNat = q := by
  rw [UInt32.toNat_shiftRight, UInt32.toNat_ofNat', show (32 - (32 - n)) % 2 ^ 32 % 32 = n by omega, Nat.shiftRight_eq_div_pow, hAg, hQ]
 rw [rotl, UInt32.toNat_or, e3, e4, ← hBg, ← Nat.shiftLeft_eq, ← Nat.shiftLeft_add_eq_or_of_lt (by rw [hBg]; exact hq), Nat.shiftLeft_eq, hBg]
 omega
theorem not64 (x : UInt32) : (4294967295 : UInt64) ^^^ x.toUInt64 = (x ^^^ (0 - 1)).toUInt64 := by
 rw [UInt32.toUInt64_xor, show (0 - 1 : UInt32).toUInt64 = 4294967295 from by decide, UInt64.xor_comm]
theorem hi64 (x : UInt64) : x >>> UInt64.ofNat 32 = (hi32 x).toUInt64 := by
 apply UInt64.toNat_inj.1
 have := x.toNat_lt
 rw [hi32, UInt32.toNat_toUInt64, UInt64.toNat_toUInt32, UInt64.toNat_shiftRight, show (UInt64.ofNat 32).toNat % 64 = 32 from rfl, Nat.shiftRight_eq_div_pow]
 omega
theorem ld_step {y : UInt32} {b : UInt8} (h : y.toNat < 16777216) : y.toUInt64 * 256 + b.toUInt64 = (y <<< UInt32.ofNat 8 ||| b.toUInt32).toUInt64 := by
 apply UInt64.toNat_inj.1
 have hb := b.toNat_lt
 rw [UInt32.toNat_toUInt64, sh8 _ _ h, UInt64.toNat_add, UInt64.toNat_mul, UInt32.toNat_toUInt64, UInt8.toNat_toUInt64]
 show (y.toNat * 256 % 2 ^ 64 + b.toNat) % 2 ^ 64 = _
 omega
theorem byte64 (x : UInt32) (s : Nat) (hs : s < 32) : (x.toUInt64 >>> UInt64.ofNat s).toUInt8 = (x >>> UInt32.ofNat s).toUInt8 := by
 rw [shr64 x s hs]
 apply UInt8.toNat_inj.1
 rw [UInt64.toNat_toUInt8, UInt32.toNat_toUInt64, UInt32.toNat_toUInt8]
theorem maj32 (a b c : UInt32) : a &&& b ||| b &&& c ||| a &&& c = a &&& b ^^^ a &&& c ^^^ b &&& c := by
 apply UInt32.toBitVec_inj.1
 simp only [UInt32.toBitVec_or, UInt32.toBitVec_and, UInt32.toBitVec_xor]
 apply BitVec.eq_of_getLsbD_eq
 intro i hi
 simp only [BitVec.getLsbD_or, BitVec.getLsbD_and, BitVec.getLsbD_xor]
 cases a.toBitVec.getLsbD i <;> cases b.toBitVec.getLsbD i <;> cases c.toBitVec.getLsbD i <;> rfl
theorem ch32 (e f g : UInt32) : e &&& f ||| (e ^^^ (0 - 1)) &&& g = e &&& f ^^^ (e ^^^ (0 - 1)) &&& g := by
 apply UInt32.toBitVec_inj.1
 simp only [UInt32.toBitVec_or, UInt32.toBitVec_and, UInt32.toBitVec_xor]
 apply BitVec.eq_of_getLsbD_eq
 intro i hi
 simp only [BitVec.getLsbD_or, BitVec.getLsbD_and, BitVec.getLsbD_xor]
 have hm : (0 - 1 : UInt32).toBitVec.getLsbD i = true := by
  have : (0 - 1 : UInt32).toBitVec = BitVec.allOnes 32 := by decide
  rw [this, BitVec.getLsbD_allOnes]
  simpa using hi
 rw [hm]
 cases e.toBitVec.getLsbD i <;> cases f.toBitVec.getLsbD i <;> cases g.toBitVec.getLsbD i <;> rfl
def v64 (x : UInt32) : Value := vD x.toUInt64
theorem at64 {l : List UInt32} {i : Nat} (h : i < l.length) : (l.map v64)[i]? = some (vD (l.getD i 0).toUInt64) := by
 rw [List.getElem?_map, List.getD_eq_getElem?_getD, List.getElem?_eq_getElem h]; rfl
theorem one64v (l : List UInt32) : ∀ u ∈ l.map v64, u.oneCell' = true := by
 intro u hu
 obtain ⟨x, _, rfl⟩ := List.mem_map.1 hu
 rfl
theorem set64 {l : List UInt32} {i : Nat} {x : UInt32} : (l.map v64).set i (vD x.toUInt64) = (l.set i x).map v64 := (List.map_set ..).symm
def mixF (x : UInt32) (a b c : Nat) (s : Bool) : UInt32 := rotl x (32 - a) ^^^ rotl x (32 - b) ^^^ (if s then x >>> UInt32.ofNat c else rotl x (32 - c))
def CH (v : V8) : UInt32 := v.f &&& v.g ^^^ (v.f ^^^ (0 - 1)) &&& v.k
def MJ (v : V8) : UInt32 := v.a &&& v.c ^^^ v.a &&& v.d ^^^ v.c &&& v.d
theorem ch64 (v : V8) : v.f.toUInt64 &&& v.g.toUInt64 ||| (4294967295 ^^^ v.f.toUInt64) &&& v.k.toUInt64 = (CH v).toUInt64 := by
 rw [not64, ← UInt32.toUInt64_and, ← UInt32.toUInt64_and, ← UInt32.toUInt64_or, ch32, CH]
theorem mj64 (v : V8) : v.a.toUInt64 &&& v.c.toUInt64 ||| v.c.toUInt64 &&& v.d.toUInt64 ||| v.a.toUInt64 &&& v.d.toUInt64 = (MJ v).toUInt64 := by
 rw [← UInt32.toUInt64_and, ← UInt32.toUInt64_and, ← UInt32.toUInt64_and, ← UInt32.toUInt64_or, ← UInt32.toUInt64_or, maj32, MJ]
theorem t64 (v : V8) (kk w : UInt32) : (v.l.toUInt64 + (mixF v.f 6 11 25 false).toUInt64 + (CH v).toUInt64 + kk.toUInt64 + w.toUInt64) &&& 4294967295 = (tF v kk w).toUInt64 :=
 Lo.mask (((((Lo.emb _).add (Lo.emb _)).add (Lo.emb _)).add (Lo.emb _)).add (Lo.emb _))
theorem tu64 (v : V8) (kk w : UInt32) : ((tF v kk w).toUInt64 + ((mixF v.a 2 13 22 false).toUInt64 + (MJ v).toUInt64)) &&& 4294967295 = (tF v kk w + uF v).toUInt64 :=
 Lo.mask ((Lo.emb _).add ((Lo.emb _).add (Lo.emb _)))
theorem et64 (e t : UInt32) : (e.toUInt64 + t.toUInt64) &&& 4294967295 = (e + t).toUInt64 := Lo.mask ((Lo.emb _).add (Lo.emb _))
theorem w64 (m : List UInt32) (i : Nat) : ((m.getD i 0).toUInt64 + (m.getD (i + 9) 0).toUInt64 + (mixF (m.getD (i + 1) 0) 7 18 3 true).toUInt64 + (mixF (m.getD (i + 14) 0) 17 19 10 true).toUInt64) &&& 4294967295 = (m.getD i 0 + m.getD (i + 9) 0 + sg0 (m.getD (i + 1) 0) + sg1 (m.getD (i + 14) 0)).toUInt64 :=
 Lo.mask ((((Lo.emb _).add (Lo.emb _)).add (Lo.emb _)).add (Lo.emb _))
theorem fill8d (v : V8) : Instr.fill (fun i => some (i * 1, 1)) ((List.replicate 8 (0 : UInt64)).map vD).toArray [(0, vD v.a.toUInt64), (1, vD v.c.toUInt64), (2, vD v.d.toUInt64), (3, vD v.e.toUInt64), (4, vD v.f.toUInt64), (5, vD v.g.toUInt64), (6, vD v.k.toUInt64), (7, vD v.l.toUInt64)] = some ((toL v).map v64).toArray := by kernel_rfl
theorem w4_bd (p : List UInt8) : ∀ i, i ≤ 64 → ((w4 p i).getD (i / 4) 0).toNat < 256 ^ (i % 4) ∧ ∀ q, i / 4 < q → ((w4 p i).getD q 0).toNat = 0
 | 0, _ => ⟨by show ((List.replicate 64 (0 : UInt32)).getD 0 0).toNat < 1; decide, fun q _ => by rw [w4, List.getD_eq_getElem?_getD, List.getElem?_replicate]; split <;> rfl⟩
 | i + 1, h => by
  obtain ⟨h1, h2⟩ := w4_bd p i (by omega)
  have hl := w4_len p i
  have hp : 256 ^ (i % 4) ≤ 256 ^ 3 := Nat.pow_le_pow_right (by decide) (by omega)
  have hb := (p.getD i 0).toNat_lt
  have hs := sh8 ((w4 p i).getD (i / 4) 0) (p.getD i 0) (by omega)
  have get : ∀ q, (w4 p (i + 1)).getD q 0 = if q = i / 4 then (w4 p i).getD (i / 4) 0 <<< UInt32.ofNat 8 ||| (p.getD i 0).toUInt32 else (w4 p i).getD q 0 := fun q => by
   rw [w4, List.getD_eq_getElem?_getD, List.getElem?_set]
   by_cases hq : i / 4 = q
   ·
    rw [if_pos hq, if_pos (by omega), if_pos hq.symm]; rfl
   ·
    rw [if_neg hq, if_neg (fun e => hq e.symm), List.getD_eq_getElem?_getD]
  refine ⟨?_, fun q hq => ?_⟩
  ·
   rw [get]
   by_cases hc : (i + 1) / 4 = i / 4
   ·
    rw [if_pos hc, hs, show (i + 1) % 4 = i % 4 + 1 by omega, Nat.pow_succ]
    omega
   ·
    rw [if_neg hc, h2 _ (by omega)]
    exact Nat.pow_pos (by decide)
  ·
   rw [get, if_neg (by omega)]
   exact h2 q (by omega)
theorem w4_room {p : List UInt8} {i : Nat} (h : i < 64) : ((w4 p i).getD (i / 4) 0).toNat < 16777216 := by
 have h1 := (w4_bd p i (by omega)).1
 have hp : 256 ^ (i % 4) ≤ 256 ^ 3 := Nat.pow_le_pow_right (by decide) (by omega)
 omega
def tl (n q : Nat) : List UInt8 := List.replicate (8 - q) 0 ++ (lenB n 8).drop (8 - q)
def TX (bl : List UInt8) (q : Nat) : List UInt8 := c1 bl (pz bl.length) ++ tl bl.length q
theorem tl_len (n q : Nat) (h : q ≤ 8) : (tl n q).length = 8 := by rw [tl, List.length_append, List.length_replicate, List.length_drop, lenB_len]; omega
theorem TX_len (bl : List UInt8) (q : Nat) (h : q ≤ 8) : (TX bl q).length = (c1 bl (pz bl.length)).length + 8 := by rw [TX, List.length_append, tl_len _ _ h]
theorem TX_zero (bl : List UInt8) : c1 bl (pz bl.length) ++ List.replicate 8 0 = TX bl 0 := by
 rw [TX, tl, List.drop_of_length_le (by rw [lenB_len]; exact Nat.le_refl _), List.append_nil]
theorem TX_pad (bl : List UInt8) : TX bl 8 = padF bl := rfl
theorem tl_set (n : Nat) : ∀ q, q < 8 → (tl n q).set (7 - q) ((UInt64.ofNat n * 8) >>> UInt64.ofNat (8 * q)).toUInt8 = tl n (q + 1)
 | 0, _ => rfl
 | 1, _ => rfl
 | 2, _ => rfl
 | 3, _ => rfl
 | 4, _ => rfl
 | 5, _ => rfl
 | 6, _ => rfl
 | 7, _ => rfl
 | q + 8, h => by omega
theorem TX_set (bl : List UInt8) (q : Nat) (h : q < 8) : (TX bl q).set ((TX bl q).length - 1 - q) ((UInt64.ofNat bl.length * 8) >>> UInt64.ofNat (8 * q)).toUInt8 = TX bl (q + 1) := by
 have hl := TX_len bl q (by omega)
 rw [hl, TX, List.set_append, if_neg (by omega), show (c1 bl (pz bl.length)).length + 8 - 1 - q - (c1 bl (pz bl.length)).length = 7 - q by omega, tl_set _ _ h, TX]
theorem own_set {l : List UInt8} {op : List Value} {i : Nat} {x : UInt8} (h : i < l.length) : (l.map vB ++ op).set i (vB x) = (l.set i x).map vB ++ op := by
 rw [List.set_append, if_pos (by rw [List.length_map]; exact h), List.map_set]
def outA (h : List UInt32) : Nat → List UInt8
 | 0 => []
 | i + 1 => outA h i ++ [(h.getD (i / 4) 0 >>> UInt32.ofNat (24 - 8 * (i % 4))).toUInt8]
theorem outA_len (h : List UInt32) : ∀ i, (outA h i).length = i
 | 0 => rfl
 | i + 1 => by rw [outA, List.length_append, outA_len h i]; rfl
theorem outS_A (h : List UInt32) : ∀ i, i ≤ 32 → outS h i = outA h i ++ List.replicate (32 - i) 0
 | 0, _ => rfl
 | i + 1, hi => by
  rw [outS, outS_A h i (by omega), List.set_append, if_neg (by rw [outA_len]; omega), outA_len, Nat.sub_self, show 32 - i = (32 - (i + 1)) + 1 by omega, List.replicate_succ, List.set_cons_zero, outA, List.append_assoc]
  rfl
theorem outA_S (h : List UInt32) : outA h 32 = outS h 32 := by
 rw [outS_A h 32 (Nat.le_refl _)]; simp
def hq : Nat → List UInt64
 | 0 => startsL
 | i + 1 => (hq i).set i ((hq i).getD i 0 >>> UInt64.ofNat 32)
theorem hq_len : ∀ i, (hq i).length = 8
 | 0 => rfl
 | i + 1 => by rw [hq, List.length_set, hq_len i]
theorem hq8 : hq 8 = (h0 8).map UInt32.toUInt64 := by decide +kernel
theorem hq8v : (hq 8).map vD = (h0 8).map v64 := by rw [hq8, List.map_map]; rfl
theorem st_len : stepsL.length = 80 := rfl
def T12 : List Nat := [7, 18, 3, 17, 19, 10, 6, 11, 25, 2, 13, 22]
def T12b : List Nat := [1, 8, 7, 19, 61, 6, 14, 18, 41, 28, 34, 39]
theorem build_i3 (a b c : Nat) (w : World) : (Instr.build 64 #[(0, vI a), (1, vI b), (2, vI c)]).run Tryd.prog w = .ok (.agg [vI a, vI b, vI c].toArray) w :=
 run_buildArr (pl := [(0, vI a), (1, vI b), (2, vI c)]) u64 z3 Tryd.zv64 rfl (by kernel_rfl)
theorem build_t12 (w : World) : (Instr.build 147 #[(0, .agg [vI 7, vI 18, vI 3].toArray), (1, .agg [vI 17, vI 19, vI 10].toArray), (2, .agg [vI 6, vI 11, vI 25].toArray), (3, .agg [vI 2, vI 13, vI 22].toArray)]).run Tryd.prog w = .ok (.agg (T12.map vI).toArray) w :=
 run_buildArr (pl := [(0, .agg [vI 7, vI 18, vI 3].toArray), (1, .agg [vI 17, vI 19, vI 10].toArray), (2, .agg [vI 6, vI 11, vI 25].toArray), (3, .agg [vI 2, vI 13, vI 22].toArray)]) u147 z64 Tryd.zv147 rfl (by kernel_rfl)
theorem build_t12b (w : World) : (Instr.build 147 #[(0, .agg [vI 1, vI 8, vI 7].toArray), (1, .agg [vI 19, vI 61, vI 6].toArray), (2, .agg [vI 14, vI 18, vI 41].toArray), (3, .agg [vI 28, vI 34, vI 39].toArray)]).run Tryd.prog w = .ok (.agg (T12b.map vI).toArray) w :=
 run_buildArr (pl := [(0, .agg [vI 1, vI 8, vI 7].toArray), (1, .agg [vI 19, vI 61, vI 6].toArray), (2, .agg [vI 14, vI 18, vI 41].toArray), (3, .agg [vI 28, vI 34, vI 39].toArray)]) u147 z64 Tryd.zv147 rfl (by kernel_rfl)
theorem one_I (l : List Nat) : ∀ u ∈ l.map vI, u.oneCell' = true := by
 intro u hu
 obtain ⟨x, _, rfl⟩ := List.mem_map.1 hu
 rfl
theorem one_D (l : List UInt64) : ∀ u ∈ l.map vD, u.oneCell' = true := by
 intro u hu
 obtain ⟨x, _, rfl⟩ := List.mem_map.1 hu
 rfl
theorem rrot_ok {x : UInt32} {n : Nat} {w0 : World} (h0 : 0 < n) (hn : n < 32) :
  Calls Tryd.prog 93 #[vD x.toUInt64, vI n, vI 32] w0 fun e w' => e = .returned (vD (rotl x (32 - n)).toUInt64) ∧ Ext w0 w' := by
 refine calls_start 26 Tryd.func93 rfl Tryd.ntmps93 rfl fun a hF => ?_
 have hS := St.refl w0
 refine wK fun Kq1 hKq1 => ?_
 refine wR ?_
 refine wg hF rfl rfl rfl (gv_assign rfl (ev_const _ _)) fun a hF => ?_
 refine wN ?_
 refine tN (hKq1 _ _ ?_)
 refine wK fun Kq2 hKq2 => ?_
 refine wK fun Kq3 hKq3 => ?_
 refine wR ?_
 refine wg hF rfl rfl rfl (gv_move rfl (hF.t rfl)) fun a hF => ?_
 refine wg hF rfl rfl rfl (gv_eqlF rfl (hF.t rfl) (ev_const _ _) (by decide)) fun a hF => ?_
 refine wN ?_
 refine tN (hKq3 _ _ ?_)
 refine wp_cond_false (hF.t rfl) ?_
 refine wp_skip ?_
 refine tN (hKq2 _ _ ?_)
 refine wK fun Kq4 hKq4 => ?_
 refine Fw.wp_region_draw (by kernel_rfl) fun w hx => ?_
 replace hS := hS.ext hx
 clear hx
 refine run_head0 (n := 10) _ hF (by kernel_rfl) rfl ?_
 refine dg hF rfl rfl rfl rfl (fun w hx => gv_move rfl (hF.t rfl)) fun a hF => ?_
 refine dg hF rfl rfl rfl rfl (fun w hx => gv_move rfl (hF.t rfl)) fun a hF => ?_
 refine dg hF rfl rfl rfl rfl (fun w hx => gv_d_shr rfl (hF.t rfl) (hF.t rfl) (by omega)) fun a hF => ?_
 refine dg hF rfl rfl rfl rfl (fun w hx => gv_move rfl (hF.t rfl)) fun a hF => ?_
 refine dg hF rfl rfl rfl rfl (fun w hx => gv_move rfl (hF.t rfl)) fun a hF => ?_
 refine dg hF rfl rfl rfl rfl (fun w hx => gv_nsub (m := 32) rfl rfl (hF.t rfl) (by omega) (by omega)) fun a hF => ?_
 refine dg hF rfl rfl rfl rfl (fun w hx => gv_d_shl rfl (hF.t rfl) (hF.t rfl) (by omega)) fun a hF => ?_
 refine dg hF rfl rfl rfl rfl (fun w hx => gv_d_add rfl (hF.t rfl) (hF.t rfl)) fun a hF => ?_
 refine dg hF rfl rfl rfl rfl (fun w hx => gv_d_and (n := 4294967295) rfl (hF.t rfl) rfl) fun a hF => ?_
 rw [rot64 x n h0 hn] at hF
 refine dg hF rfl rfl rfl rfl (fun w hx => gv_assign rfl (hF.t rfl)) fun a hF => ?_
 refine dw_nil fun a w hA hx => ?_
 replace hF := hA _ hF
 replace hS := hS.ext hx
 clear hA hx
 refine run_done (by decide) ?_
 refine tN (hKq4 _ _ ?_)
 refine wp_ret ?_
 refine ret1 (fn := Tryd.f93) (t := 6) hF rfl rfl ?_
 exact ⟨rfl, hS.toExt nw_nil⟩
theorem rmix_t {x : UInt32} {n1 n2 n3 : Nat} {w0 : World} (ha : 0 < n1 ∧ n1 < 32) (hb : 0 < n2 ∧ n2 < 32) (hc : 0 < n3 ∧ n3 < 32) :
  Calls Tryd.prog 86 #[vD x.toUInt64, .agg [vI n1, vI n2, vI n3].toArray, .bool true, vI 32] w0 fun e w' => e = .returned (vD (mixF x n1 n2 n3 true).toUInt64) ∧ Ext w0 w' := by
 refine calls_start 35 Tryd.func86 rfl Tryd.ntmps86 rfl fun a hF => ?_
 have hS := St.refl w0
 refine wK fun Kq1 hKq1 => ?_
 refine wR ?_
 refine wpList_stp (stp_box (cs := [vI n1, vI n2, vI n3]) hF (wanted_none rfl) rfl rfl rfl (hF.t rfl) rfl hS fun tb a w hF hS => ?_)
 refine wg hF rfl rfl rfl (gv_assign rfl (ev_const _ _)) fun a hF => ?_
 refine wN ?_
 refine tN (hKq1 _ _ ?_)
 refine wK fun Kq2 hKq2 => ?_
 refine Fw.wp_region_draw (by kernel_rfl) fun w hx => ?_
 replace hS := hS.ext hx
 clear hx
 refine run_head0 (n := 12) _ hF (by kernel_rfl) rfl ?_
 refine dg hF rfl rfl rfl rfl (fun w hx => gv_move rfl (hF.t rfl)) fun a hF => ?_
 refine dg hF rfl rfl rfl rfl (fun w hx => gv_indexArr (q := 0) rfl u64 z3 (hF.t rfl) rfl (by omega)) fun a hF => ?_
 refine dg hF rfl rfl rfl rfl (fun w hx => gv_load rfl u3 rfl (hF.t rfl) (cell_ix (j := 0) ((hS.ext hx).cell (k := 0) rfl (rfl)) (by omega))) fun a hF => ?_
 refine dg hF rfl rfl rfl rfl (fun w hx => gv_move rfl (hF.t rfl)) fun a hF => ?_
 refine dw_call hF rfl (wanted_none rfl) rfl rfl Tryd.ok93 rfl (Evs.cons (hF.t rfl) (Evs.cons (hF.t rfl) (Evs.cons (hF.t rfl) Evs.nil))) (fun w hx => rrot_ok ha.1 ha.2) fun a hF => ?_
 refine dg hF rfl rfl rfl rfl (fun w hx => gv_move rfl (hF.t rfl)) fun a hF => ?_
 refine dg hF rfl rfl rfl rfl (fun w hx => gv_indexArr (q := 1) rfl u64 z3 (hF.t rfl) rfl (by omega)) fun a hF => ?_
 refine dg hF rfl rfl rfl rfl (fun w hx => gv_load rfl u3 rfl (hF.t rfl) (cell_ix (j := 1) ((hS.ext hx).cell (k := 0) rfl (rfl)) (by omega))) fun a hF => ?_
 refine dg hF rfl rfl rfl rfl (fun w hx => gv_move rfl (hF.t rfl)) fun a hF => ?_
 refine dw_call hF rfl (wanted_none rfl) rfl rfl Tryd.ok93 rfl (Evs.cons (hF.t rfl) (Evs.cons (hF.t rfl) (Evs.cons (hF.t rfl) Evs.nil))) (fun w hx => rrot_ok hb.1 hb.2) fun a hF => ?_
 refine dg hF rfl rfl rfl rfl (fun w hx => gv_d_xor rfl (hF.t rfl) (hF.t rfl)) fun a hF => ?_
 refine dg hF rfl rfl rfl rfl (fun w hx => gv_assign rfl (hF.t rfl)) fun a hF => ?_
 refine dw_nil fun a w hA hx => ?_
 replace hF := hA _ hF
 replace hS := hS.ext hx
 clear hA hx
 refine run_done (by decide) ?_
 refine tN (hKq2 _ _ ?_)
 refine wK fun Kq3 hKq3 => ?_
 refine wK fun Kq4 hKq4 => ?_
 refine wR ?_
 refine wg hF rfl rfl rfl (gv_move rfl (hF.t rfl)) fun a hF => ?_
 refine wN ?_
 refine tN (hKq4 _ _ ?_)
 refine wp_cond_true (hF.t rfl) ?_
 refine wK fun Kq5 hKq5 => ?_
 refine wR ?_
 refine wg hF rfl rfl rfl (gv_move rfl (hF.t rfl)) fun a hF => ?_
 refine wg hF rfl rfl rfl (gv_move rfl (hF.t rfl)) fun a hF => ?_
 refine wg hF rfl rfl rfl (gv_indexArr (q := 2) rfl u64 z3 (hF.t rfl) rfl (by omega)) fun a hF => ?_
 refine wg hF rfl rfl rfl (gv_load rfl u3 rfl (hF.t rfl) (cell_ix (j := 2) (hS.cell (k := 0) rfl (rfl)) (by omega))) fun a hF => ?_
 refine wg hF rfl rfl rfl (gv_d_shr rfl (hF.t rfl) (hF.t rfl) (by omega)) fun a hF => ?_
 refine wg hF rfl rfl rfl (gv_d_xor rfl (hF.t rfl) (hF.t rfl)) fun a hF => ?_
 refine wg hF rfl rfl rfl (gv_assign rfl (hF.t rfl)) fun a hF => ?_
 refine wN ?_
 refine tN (hKq5 _ _ ?_)
 refine wp_ret ?_
 refine then_ret ?_
 refine ret1 (fn := Tryd.f86) (t := 8) hF rfl rfl ?_
 refine ⟨?_, hS.toExt (nw_cons rfl nw_nil)⟩
 rw [mixF, UInt32.toUInt64_xor, UInt32.toUInt64_xor]
 rw [if_pos rfl, ← shr64 x n3 hc.2]
theorem rmix_f {x : UInt32} {n1 n2 n3 : Nat} {w0 : World} (ha : 0 < n1 ∧ n1 < 32) (hb : 0 < n2 ∧ n2 < 32) (hc : 0 < n3 ∧ n3 < 32) :
  Calls Tryd.prog 86 #[vD x.toUInt64, .agg [vI n1, vI n2, vI n3].toArray, .bool false, vI 32] w0 fun e w' => e = .returned (vD (mixF x n1 n2 n3 false).toUInt64) ∧ Ext w0 w' := by
 refine calls_start 35 Tryd.func86 rfl Tryd.ntmps86 rfl fun a hF => ?_
 have hS := St.refl w0
 refine wK fun Kq1 hKq1 => ?_
 refine wR ?_
 refine wpList_stp (stp_box (cs := [vI n1, vI n2, vI n3]) hF (wanted_none rfl) rfl rfl rfl (hF.t rfl) rfl hS fun tb a w hF hS => ?_)
 refine wg hF rfl rfl rfl (gv_assign rfl (ev_const _ _)) fun a hF => ?_
 refine wN ?_
 refine tN (hKq1 _ _ ?_)
 refine wK fun Kq2 hKq2 => ?_
 refine Fw.wp_region_draw (by kernel_rfl) fun w hx => ?_
 replace hS := hS.ext hx
 clear hx
 refine run_head0 (n := 12) _ hF (by kernel_rfl) rfl ?_
 refine dg hF rfl rfl rfl rfl (fun w hx => gv_move rfl (hF.t rfl)) fun a hF => ?_
 refine dg hF rfl rfl rfl rfl (fun w hx => gv_indexArr (q := 0) rfl u64 z3 (hF.t rfl) rfl (by omega)) fun a hF => ?_
 refine dg hF rfl rfl rfl rfl (fun w hx => gv_load rfl u3 rfl (hF.t rfl) (cell_ix (j := 0) ((hS.ext hx).cell (k := 0) rfl (rfl)) (by omega))) fun a hF => ?_
 refine dg hF rfl rfl rfl rfl (fun w hx => gv_move rfl (hF.t rfl)) fun a hF => ?_
 refine dw_call hF rfl (wanted_none rfl) rfl rfl Tryd.ok93 rfl (Evs.cons (hF.t rfl) (Evs.cons (hF.t rfl) (Evs.cons (hF.t rfl) Evs.nil))) (fun w hx => rrot_ok ha.1 ha.2) fun a hF => ?_
 refine dg hF rfl rfl rfl rfl (fun w hx => gv_move rfl (hF.t rfl)) fun a hF => ?_
 refine dg hF rfl rfl rfl rfl (fun w hx => gv_indexArr (q := 1) rfl u64 z3 (hF.t rfl) rfl (by omega)) fun a hF => ?_
 refine dg hF rfl rfl rfl rfl (fun w hx => gv_load rfl u3 rfl (hF.t rfl) (cell_ix (j := 1) ((hS.ext hx).cell (k := 0) rfl (rfl)) (by omega))) fun a hF => ?_
 refine dg hF rfl rfl rfl rfl (fun w hx => gv_move rfl (hF.t rfl)) fun a hF => ?_
 refine dw_call hF rfl (wanted_none rfl) rfl rfl Tryd.ok93 rfl (Evs.cons (hF.t rfl) (Evs.cons (hF.t rfl) (Evs.cons (hF.t rfl) Evs.nil))) (fun w hx => rrot_ok hb.1 hb.2) fun a hF => ?_
 refine dg hF rfl rfl rfl rfl (fun w hx => gv_d_xor rfl (hF.t rfl) (hF.t rfl)) fun a hF => ?_
 refine dg hF rfl rfl rfl rfl (fun w hx => gv_assign rfl (hF.t rfl)) fun a hF => ?_
 refine dw_nil fun a w hA hx => ?_
 replace hF := hA _ hF
 replace hS := hS.ext hx
 clear hA hx
 refine run_done (by decide) ?_
 refine tN (hKq2 _ _ ?_)
 refine wK fun Kq3 hKq3 => ?_
 refine wK fun Kq4 hKq4 => ?_
 refine wR ?_
 refine wg hF rfl rfl rfl (gv_move rfl (hF.t rfl)) fun a hF => ?_
 refine wN ?_
 refine tN (hKq4 _ _ ?_)
 refine wp_cond_false (hF.t rfl) ?_
 refine wp_skip ?_
 refine tN (hKq3 _ _ ?_)
 refine wK fun Kq5 hKq5 => ?_
 refine wR ?_
 refine wg hF rfl rfl rfl (gv_move rfl (hF.t rfl)) fun a hF => ?_
 refine wg hF rfl rfl rfl (gv_move rfl (hF.t rfl)) fun a hF => ?_
 refine wg hF rfl rfl rfl (gv_indexArr (q := 2) rfl u64 z3 (hF.t rfl) rfl (by omega)) fun a hF => ?_
 refine wg hF rfl rfl rfl (gv_load rfl u3 rfl (hF.t rfl) (cell_ix (j := 2) (hS.cell (k := 0) rfl (rfl)) (by omega))) fun a hF => ?_
 refine wg hF rfl rfl rfl (gv_move rfl (hF.t rfl)) fun a hF => ?_
 refine wpList_stp (stp_call hF (wanted_none rfl) rfl rfl Tryd.ok93 rfl (Evs.cons (hF.t rfl) (Evs.cons (hF.t rfl) (Evs.cons (hF.t rfl) Evs.nil))) (rrot_ok hc.1 hc.2) fun e w h => ?_)
 obtain ⟨rfl, hx⟩ := h
 refine ⟨_, rfl, fun a hF => ?_⟩
 replace hS := hS.ext hx
 clear hx
 refine wg hF rfl rfl rfl (gv_d_xor rfl (hF.t rfl) (hF.t rfl)) fun a hF => ?_
 refine wg hF rfl rfl rfl (gv_assign rfl (hF.t rfl)) fun a hF => ?_
 refine wN ?_
 refine tN (hKq5 _ _ ?_)
 refine wp_ret ?_
 refine ret1 (fn := Tryd.f86) (t := 8) hF rfl rfl ?_
 refine ⟨?_, hS.toExt (nw_cons rfl nw_nil)⟩
 rw [mixF, UInt32.toUInt64_xor, UInt32.toUInt64_xor]
 rw [if_neg Bool.false_ne_true]
theorem squares_ok {w0 : World} :
  Calls Tryd.prog 84 #[] w0 fun e w' => e = .returned (.agg (startsL.map vD).toArray) ∧ Ext w0 w' := by
 refine calls_start 2 Tryd.func84 rfl Tryd.ntmps84 rfl fun a hF => ?_
 have hS := St.refl w0
 refine wK fun Kq1 hKq1 => ?_
 refine wR ?_
 refine wpList_stp (stp_alloc hF (wanted_none rfl) rfl rfl rfl Tryd.zv148 rfl hS fun o a w hF hS => ?_)
 refine wN ?_
 refine tN (hKq1 _ _ ?_)
 refine wK fun Kq2 hKq2 => ?_
 refine wR ?_
 refine wg hF rfl rfl rfl (gv_build (pl := (List.range 8).zip (startsL.map vD)) rfl (by kernel_rfl) (run_buildArr (cs := (startsL.map vD).toArray) u148 z76 Tryd.zv148 rfl (by kernel_rfl))) fun a hF => ?_
 refine wpList_stp (stp_storeAll hF (wanted_none rfl) rfl rfl (z148.trans (congrArg some (rfl))) (hF.t rfl) (hF.t rfl) (one_D _) hS (k := 0) rfl (rfl) fun w hS => ?_)
 refine wN ?_
 refine tN (hKq2 _ _ ?_)
 refine wp_ret ?_
 refine retCell (fn := Tryd.f84) hF rfl u148 rfl (z148.trans (congrArg some rfl)) rfl hS (k := 0) rfl ⟨rfl, hS.toExt (nw_cons rfl nw_nil)⟩
theorem roots_ok {w0 : World} :
  Calls Tryd.prog 85 #[] w0 fun e w' => e = .returned (.agg (stepsL.map vD).toArray) ∧ Ext w0 w' := by
 refine calls_start 2 Tryd.func85 rfl Tryd.ntmps85 rfl fun a hF => ?_
 have hS := St.refl w0
 refine wK fun Kq1 hKq1 => ?_
 refine wR ?_
 refine wpList_stp (stp_alloc hF (wanted_none rfl) rfl rfl rfl Tryd.zv150 rfl hS fun o a w hF hS => ?_)
 refine wN ?_
 refine tN (hKq1 _ _ ?_)
 refine wK fun Kq2 hKq2 => ?_
 refine wR ?_
 refine wg hF rfl rfl rfl (gv_build (pl := (List.range 80).zip (stepsL.map vD)) rfl (by kernel_rfl) (run_buildArr (cs := (stepsL.map vD).toArray) u150 z76 Tryd.zv150 rfl (by kernel_rfl))) fun a hF => ?_
 refine wpList_stp (stp_storeAll hF (wanted_none rfl) rfl rfl (z150.trans (congrArg some (rfl))) (hF.t rfl) (hF.t rfl) (one_D _) hS (k := 0) rfl (rfl) fun w hS => ?_)
 refine wN ?_
 refine tN (hKq2 _ _ ?_)
 refine wp_ret ?_
 refine retCell (fn := Tryd.f85) hF rfl u150 rfl (z150.trans (congrArg some rfl)) rfl hS (k := 0) rfl ⟨rfl, hS.toExt (nw_cons rfl nw_nil)⟩
end Go.Proofs.YtfhalnobaeogkaaDoor

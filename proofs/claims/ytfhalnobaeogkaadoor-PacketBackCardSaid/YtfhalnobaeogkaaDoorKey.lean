/- What is proved: keys of a byte, and how a half of a connection takes keys. -/
import Derived.Test.YtfhalnobaeogkaaDoorProg
import Derived.Test.YtfhalnobaeogkaaDoorFwSep
import Derived.KernelRfl
import Derived.Test.YtfhalnobaeogkaaDoorFwApp
import Derived.Test.YtfhalnobaeogkaaDoorFwWord
import Derived.Test.YtfhalnobaeogkaaDoorFwPkt
import Derived.Test.YtfhalnobaeogkaaDoorFwTok
import Derived.Test.YtfhalnobaeogkaaDoorDig
import Derived.Test.YtfhalnobaeogkaaDoorSum
import Derived.Test.YtfhalnobaeogkaaDoorWire
import Derived.Test.YtfhalnobaeogkaaDoorPktW
import Derived.Test.YtfhalnobaeogkaaDoorLeaf
import Derived.Test.YtfhalnobaeogkaaDoorCip
set_option linter.unusedVariables false
set_option linter.unusedSimpArgs false
namespace Go.Proofs.YtfhalnobaeogkaaDoor
open Go Go.RowKit Go.Fw

theorem Tryd.sz40 : (Tryd.prog.info? 40).map (·.size) = some 3 := by kernel_rfl
theorem Tryd.zv40 : (Tryd.prog.info? 40).map (·.zero) = some (some (Value.agg ([Value.slice none 0 0] ++ [Value.slice none 0 0] ++ [Value.slice none 0 0]).toArray)) := by kernel_rfl
theorem Tryd.ok52 : CallOk Tryd.prog 52 := ⟨_, Tryd.func52, by kernel_rfl, by kernel_rfl⟩


abbrev nokb : Ent := ⟨true, none, blkB 129 []⟩
theorem new_st {kv cv : Value} {kl cl : List UInt8} {w0 : World} (hkv : Rd w0 kv (kl.map vB)) (hcv : Rd w0 cv (cl.map vB)) (hk : kl.length = 16) (hc : cl.length = 16) :
    Calls Tryd.prog 52 #[kv, cv] w0 fun e w' => ∃ b, e = .returned (.tuple #[.pointer (some ⟨b, 0, none⟩), .int .i64 0]) ∧ St w0 w' [⟨true, some b, strm (keys kl) cl (.slice none 0 0)⟩, nokb] :=
  (new_ok hkv hcv hk hc).mono fun e w' ⟨b, he, h⟩ => ⟨b, he, (h.addNil (blkB 129 [])).move (k := 1) rfl⟩
theorem nil_left {w0 : World} : SRd w0 [nokb] (.slice none 0 0) (([] : List UInt8).map vB) := SRd.nil
/-- The bytes that keys are cut from. -/
def kbs (c : UInt8) : Nat → List UInt8
  | 0 => List.replicate 64 0
  | i + 1 => (kbs c i).set i (c + UInt8.ofNat (i * i))
theorem kbs_len (c : UInt8) : ∀ i, (kbs c i).length = 64
  | 0 => List.length_replicate
  | i + 1 => by rw [kbs, List.length_set, kbs_len c i]
def kKey (c : UInt8) : List UInt8 := (kbs c 64).take 16
def kIv (c : UInt8) : List UInt8 := ((kbs c 64).take 32).drop 16
def kMac (c : UInt8) : List UInt8 := (kbs c 64).drop 32
theorem kKey_len (c : UInt8) : (kKey c).length = 16 := by rw [kKey, List.length_take, kbs_len]; rfl
theorem kIv_len (c : UInt8) : (kIv c).length = 16 := by rw [kIv, List.length_drop, List.length_take, kbs_len]; rfl
theorem kMac_len (c : UInt8) : (kMac c).length = 32 := by rw [kMac, List.length_drop, kbs_len]
abbrev keyV (b : Nat) : Array Value := #[.slice (some ⟨b, 0, none⟩) 16 64, cut3V (some ⟨b, 0, none⟩) 16 32 64, cutV (some ⟨b, 0, none⟩) 64 64 32]
theorem key_srd {w0 : World} {T : List Ent} {b : Nat} {c : UInt8} (h : ⟨true, some b, blkB 5 (kbs c 64)⟩ ∈ T) :
    SRd w0 T (.slice (some ⟨b, 0, none⟩) 16 64) ((kKey c).map vB) ∧ SRd w0 T (cut3V (some ⟨b, 0, none⟩) 16 32 64) ((kIv c).map vB) ∧ SRd w0 T (cutV (some ⟨b, 0, none⟩) 64 64 32) ((kMac c).map vB) := by
  have h0 := SRd.arr (w0 := w0) h (kbs_len c 64) (by omega)
  refine ⟨?_, ?_, ?_⟩
  · have := h0.cutHi (hi := 16) (by omega)
    rwa [← List.map_take] at this
  · have := SRd.cut3 (l := 16) (h := 32) (mx := 64) h0 (by omega) (by omega) (by omega) (by omega)
    rwa [← List.map_take, ← List.map_drop] at this
  · have := h0.cutLo (lo := 32) (by omega)
    rwa [← List.map_drop] at this
theorem build_keys (b : Nat) (w : World) : (Instr.build 40 #[(0, .slice (some ⟨b, 0, none⟩) 16 64), (1, cut3V (some ⟨b, 0, none⟩) 16 32 64), (2, cutV (some ⟨b, 0, none⟩) 64 64 32)]).run Tryd.prog w = .ok (.agg (keyV b)) w := by
  refine run_buildStr (pl := [(0, .slice (some ⟨b, 0, none⟩) 16 64), (1, cut3V (some ⟨b, 0, none⟩) 16 32 64), (2, cutV (some ⟨b, 0, none⟩) 64 64 32)]) (places := #[(0, 1), (1, 1), (2, 1)]) Tryd.underlying40 Tryd.zv40 rfl (fun w => ?_) ?_
  · simp [Fw.run_sizeOf Tryd.sz22]
  · rfl


theorem keys_ok {c : UInt8} {w0 : World} :
    Calls Tryd.prog 20 #[vB c] w0 fun e w' => ∃ b, e = .returned (.agg (keyV b)) ∧ St w0 w' [⟨true, some b, blkB 5 (kbs c 64)⟩] := by
  refine calls_start 28 Tryd.func20 rfl Tryd.ntmps20 rfl fun a hF => ?_
  have hS := St.refl w0
  refine wp_seq_k fun Kq1 hKq1 => ?_
  -- region 0 (law.go:40)
  refine wp_region_lit ?_
  refine wpList_stp (stp_alloc hF (wanted_none rfl) rfl rfl rfl Tryd.zv40 rfl hS fun kk a w hF hS => ?_)
  refine wpList_nil ?_
  refine then_normal (hKq1 _ _ ?_)
  refine wp_seq_k fun Kq2 hKq2 => ?_
  -- region 1 (law.go:41)
  refine wp_region_lit ?_
  refine wpList_stp (stp_make (n := 64) hF (wanted_none rfl) rfl rfl rfl Tryd.underlying22 Tryd.ty5 rfl rfl rfl (by omega) (by omega) hS fun b a w hF hS => ?_)
  refine wpList_stp (stp_gv hF (wanted_none rfl) rfl rfl (gv_assign rfl (hF.t rfl)) fun a hF => ?_)
  refine wpList_nil ?_
  refine then_normal (hKq2 _ _ ?_)
  refine wp_seq_k fun Kq3 hKq3 => ?_
  refine wp_seq_k fun Kq4 hKq4 => ?_
  -- region 2 (law.go:42)
  refine wp_region_lit ?_
  refine wpList_stp (stp_gv hF (wanted_none rfl) rfl rfl (gv_move rfl (hF.t rfl)) fun a hF => ?_)
  refine wpList_stp (stp_gv hF (wanted_none rfl) rfl rfl (gv_len rfl Tryd.underlying22 (hF.t rfl)) fun a hF => ?_)
  refine wpList_stp (stp_gv hF (wanted_none rfl) rfl rfl (gv_move rfl (ev_const _ _)) fun a hF => ?_)
  refine wpList_nil ?_
  refine then_normal (hKq4 _ _ ?_)
  refine wp_block ?_
  simp only [rep_vB] at hS
  refine wp_loop_n (fun n a w => ∃ i, i ≤ 64 ∧ n = 64 - i ∧ Fr 28 a [(0, vB c), (2, .pointer (some ⟨kk, 0, none⟩)), (3, .slice (some ⟨b, 0, none⟩) 64 64), (7, vI 64), (8, vI i)] ∧ St w0 w [⟨true, some b, blkB 5 (kbs c i)⟩, ⟨true, some kk, blk 40 [.slice none 0 0, .slice none 0 0, .slice none 0 0]⟩]) 64 ⟨0, by omega, by omega, hF.sub ⟨rfl, rfl, rfl, rfl, rfl, trivial⟩, hS⟩ ?_
  rintro n a w ⟨i, hi, hn, hF, hS⟩
  refine wp_seq_k fun Kq5 hKq5 => ?_
  -- region 3 (law.go:42)
  refine wp_region_lit ?_
  refine wpList_stp (stp_gv hF (wanted_none rfl) rfl rfl (gv_lss rfl (hF.t rfl) (hF.t rfl)) fun a hF => ?_)
  refine wpList_nil ?_
  refine then_normal (hKq5 _ _ ?_)
  refine wp_seq_k fun Kq6 hKq6 => ?_
  refine cond_dec (hF.t rfl) (fun h9 => ?_) (fun h9 => ?_)
  ·
    refine wp_skip ?_
    refine then_normal (hKq6 _ _ ?_)
    refine wp_seq_k fun Kq7 hKq7 => ?_
    refine wp_block ?_
    refine wp_seq_k fun Kq8 hKq8 => ?_
    -- region 4 (law.go:42)
    refine wp_region_lit ?_
    refine wpList_stp (stp_gv hF (wanted_none rfl) rfl rfl (gv_move rfl (hF.t rfl)) fun a hF => ?_)
    refine wpList_stp (stp_gv hF (wanted_none rfl) rfl rfl (gv_assign rfl (hF.t rfl)) fun a hF => ?_)
    refine wpList_nil ?_
    refine then_normal (hKq8 _ _ ?_)
    -- region 5 (law.go:43)
    refine wp_region_lit ?_
    refine wpList_stp (stp_gv hF (wanted_none rfl) rfl rfl (gv_move rfl (hF.t rfl)) fun a hF => ?_)
    refine wpList_stp (stp_gv hF (wanted_none rfl) rfl rfl (gv_move rfl (hF.t rfl)) fun a hF => ?_)
    refine wpList_stp (stp_gv hF (wanted_none rfl) rfl rfl (gv_move rfl (hF.t rfl)) fun a hF => ?_)
    refine wpList_stp (stp_gv hF (wanted_none rfl) rfl rfl (gv_move rfl (hF.t rfl)) fun a hF => ?_)
    refine wpList_stp (stp_gv hF (wanted_none rfl) rfl rfl (gv_move rfl (hF.t rfl)) fun a hF => ?_)
    refine wpList_stp (stp_gv hF (wanted_none rfl) rfl rfl (gv_nmul rfl (hF.t rfl) (hF.t rfl) (by have := Nat.mul_le_mul hi hi; omega)) fun a hF => ?_)
    refine wpList_stp (stp_gv hF (wanted_none rfl) rfl rfl (gv_conv_i_b rfl Tryd.underlying3 Tryd.underlying5 (hF.t rfl)) fun a hF => ?_)
    refine wpList_stp (stp_gv hF (wanted_none rfl) rfl rfl (gv_b_add rfl (hF.t rfl) (hF.t rfl)) fun a hF => ?_)
    refine wpList_stp (stp_gv hF (wanted_none rfl) rfl rfl (gv_indexSl rfl Tryd.underlying22 Tryd.sz5 (hF.t rfl) (hF.t rfl) (by omega)) fun a hF => ?_)
    refine wpList_stp (stp_storeB (i) hF (wanted_none rfl) rfl rfl Tryd.sz5 (hF.t rfl) (by omega) (hF.t rfl) hS (k := 0) rfl (by rw [kbs_len]; omega) fun w hS => ?_)
    refine wpList_nil ?_
    refine block_normal ?_
    refine then_normal (hKq7 _ _ ?_)
    -- region 6 (law.go:42)
    refine wp_region_lit ?_
    refine wpList_stp (stp_gv hF (wanted_none rfl) rfl rfl (gv_nadd (n := 1) rfl (hF.t rfl) rfl (by omega)) fun a hF => ?_)
    refine wpList_stp (stp_gv hF (wanted_none rfl) rfl rfl (gv_move rfl (hF.t rfl)) fun a hF => ?_)
    refine wpList_nil ?_
    refine then_normal ?_
    exact ⟨n - 1, by omega, i + 1, by omega, by omega, hF.sub ⟨rfl, rfl, rfl, rfl, rfl, trivial⟩, hS⟩
  ·
    refine wp_exit ?_
    refine then_exit ?_
    refine then_exit ?_
    refine block_exit ?_
    refine then_normal (hKq3 _ _ ?_)
    refine wp_seq_k fun Kq9 hKq9 => ?_
    obtain rfl : i = 64 := by omega
    -- region 7 (law.go:45)
    refine Fw.wp_region_draw (by kernel_rfl) fun w hx => ?_
    replace hS := hS.ext hx
    clear hx
    refine run_head0 (n := 7) _ hF (by kernel_rfl) rfl ?_
    refine dw_gv hF rfl (wanted_none rfl) rfl rfl (fun w hx => gv_move rfl (hF.t rfl)) fun a hF => ?_
    refine dw_gv hF rfl (wanted_none rfl) rfl rfl (fun w hx => gv_sliceHi (hi := 16) rfl Tryd.underlying22 Tryd.sz5 (hF.t rfl) rfl (by omega)) fun a hF => ?_
    refine dw_gv hF rfl (wanted_none rfl) rfl rfl (fun w hx => gv_move rfl (hF.t rfl)) fun a hF => ?_
    refine dw_gv hF rfl (wanted_none rfl) rfl rfl (fun w hx => gv_slice2 (l := 16) (h := 32) rfl Tryd.underlying22 Tryd.sz5 (hF.t rfl) rfl rfl (by omega) (by omega)) fun a hF => ?_
    refine dw_gv hF rfl (wanted_none rfl) rfl rfl (fun w hx => gv_move rfl (hF.t rfl)) fun a hF => ?_
    refine dw_gv hF rfl (wanted_none rfl) rfl rfl (fun w hx => gv_sliceLo (lo := 32) rfl Tryd.underlying22 Tryd.sz5 (hF.t rfl) rfl (by omega)) fun a hF => ?_
    refine dw_gv hF rfl (wanted_none rfl) rfl rfl (fun w hx => gv_build (v := .agg (keyV b)) rfl (EvP.map (EvP.cons (hF.t rfl) (EvP.cons (hF.t rfl) (EvP.cons (hF.t rfl) EvP.nil)))) (build_keys _ _)) fun a hF => ?_
    refine dw_nil fun a w hA hx => ?_
    replace hF := hA _ hF
    replace hS := hS.ext hx
    clear hA hx
    refine run_stp (by kernel_rfl) rfl (stp_storeAll hF (wanted_none rfl) rfl rfl (Tryd.sz40.trans (congrArg some (by rfl))) (hF.t rfl) (hF.t rfl) (fun u hu => by simp [keyV] at hu; rcases hu with rfl | rfl | rfl <;> rfl) hS (k := 1) rfl (by rfl) fun w hS => ?_)
    refine run_done (by decide) ?_
    refine then_normal (hKq9 _ _ ?_)
    refine wp_ret ?_
    refine retCell (fn := Tryd.f20) (vs := (keyV b).toList) hF rfl Tryd.underlying40 rfl (Tryd.sz40.trans (congrArg some (by rfl))) rfl hS (k := 1) rfl ⟨b, rfl, hS.drop2 rfl⟩

theorem hand_ok {w00 w : World} {T : List Ent} {b n : Nat} {tt : TypeId} {seq : UInt32} {st mac k1 k2 k3 : Value} {rest : List Value} {kl il ml : List UInt8} (hT : ∀ e ∈ T, e.nw = true) (hS : St w00 w (⟨true, some b, blk tt (vW seq :: st :: mac :: vI n :: rest)⟩ :: T)) (h1 : SRd w00 T k1 (kl.map vB)) (h2 : SRd w00 T k2 (il.map vB)) (h3 : SRd w00 T k3 (ml.map vB)) (l1 : kl.length = 16) (l2 : il.length = 16) (l3 : ml.length = 32) :
    Calls Tryd.prog 19 #[.pointer (some ⟨b, 0, none⟩), .agg #[k1, k2, k3]] w fun e w' => e = .returned (.int .i64 0) ∧ ∃ s m mp, 32 + mp.length ≤ 9223372036854775807 ∧
      St w00 w' (⟨true, some b, blk tt (vW seq :: .pointer (some ⟨s, 0, none⟩) :: .slice (some ⟨m, 0, none⟩) 32 (32 + mp.length) :: vI 0 :: rest)⟩ :: ⟨true, some m, blk 5 (ml.map vB ++ mp)⟩ :: ⟨true, some s, strm (keys kl) il (.slice none 0 0)⟩ :: nokb :: T) := by
  have hT0 := nw_cons (e := ⟨true, some b, blk tt (vW seq :: st :: mac :: vI n :: rest)⟩) rfl hT
  obtain ⟨A1, c1, rfl, _, _, _⟩ := (h1 w _ hS hT0 (fun e he => List.mem_cons_of_mem _ he)).isB
  obtain ⟨A2, c2, rfl, _, _, _⟩ := (h2 w _ hS hT0 (fun e he => List.mem_cons_of_mem _ he)).isB
  obtain ⟨A3, c3, rfl, _, _, _⟩ := (h3 w _ hS hT0 (fun e he => List.mem_cons_of_mem _ he)).isB
  clear hT0
  refine calls_start 40 Tryd.func19 rfl Tryd.ntmps19 rfl fun a hF => ?_
  refine wp_seq_k fun Kq1 hKq1 => ?_
  -- region 0 (packet.go:25)
  refine wp_region_lit ?_
  refine wpList_stp (stp_box hF (wanted_none rfl) rfl rfl rfl (hF.t rfl) rfl hS fun kx a w hF hS => ?_)
  refine wpList_stp (stp_gv hF (wanted_none rfl) rfl rfl (gv_assign rfl (ev_const _ _)) fun a hF => ?_)
  refine wpList_nil ?_
  refine then_normal (hKq1 _ _ ?_)
  refine wp_seq_k fun Kq2 hKq2 => ?_
  -- region 1 (packet.go:26)
  refine wp_region_lit ?_
  refine wpList_stp (stp_gv hF (wanted_none rfl) rfl rfl (gv_field (r := 0) rfl Tryd.underlying40 rfl rfl Tryd.sz22 (by decide) (hF.t rfl)) fun a hF => ?_)
  refine wpList_stp (stp_gv hF (wanted_none rfl) rfl rfl (gv_load rfl Tryd.underlying22 rfl (hF.t rfl) (cell_ix (j := 0) (hS.cell (k := 0) rfl (rfl)) (by omega))) fun a hF => ?_)
  refine wpList_stp (stp_gv hF (wanted_none rfl) rfl rfl (gv_field (r := 1) rfl Tryd.underlying40 rfl rfl Tryd.sz22 (by decide) (hF.t rfl)) fun a hF => ?_)
  refine wpList_stp (stp_gv hF (wanted_none rfl) rfl rfl (gv_load rfl Tryd.underlying22 rfl (hF.t rfl) (cell_ix (j := 1) (hS.cell (k := 0) rfl (rfl)) (by omega))) fun a hF => ?_)
  refine wpList_stp (stp_call hF (wanted_none rfl) rfl rfl Tryd.ok52 rfl (Evs.cons (hF.t rfl) (Evs.cons (hF.t rfl) Evs.nil)) (new_st (h1 _ _ hS (nw_cons rfl (nw_cons rfl hT)) (fun e he => List.mem_cons_of_mem _ (List.mem_cons_of_mem _ he))) (h2 _ _ hS (nw_cons rfl (nw_cons rfl hT)) (fun e he => List.mem_cons_of_mem _ (List.mem_cons_of_mem _ he))) l1 l2) fun e w h => ?_)
  obtain ⟨s, rfl, hN⟩ := h
  refine ⟨_, rfl, fun a hF => ?_⟩
  replace hS := hS.join hN (nw_cons rfl (nw_cons rfl nw_nil))
  simp only [List.cons_append, List.nil_append] at hS
  clear hN
  refine wpList_stp (stp_gv hF (wanted_none rfl) rfl rfl (gv_move rfl (hF.t rfl)) fun a hF => ?_)
  refine wpList_stp (stp_gv hF (wanted_none rfl) rfl rfl (gv_extract rfl (hF.t rfl) rfl) fun a hF => ?_)
  refine wpList_stp (stp_gv hF (wanted_none rfl) rfl rfl (gv_extract rfl (hF.t rfl) rfl) fun a hF => ?_)
  refine wpList_stp (stp_gv hF (wanted_none rfl) rfl rfl (gv_assign rfl (hF.t rfl)) fun a hF => ?_)
  refine wpList_stp (stp_gv hF (wanted_none rfl) rfl rfl (gv_assign rfl (hF.t rfl)) fun a hF => ?_)
  refine wpList_nil ?_
  refine then_normal (hKq2 _ _ ?_)
  refine wp_seq_k fun Kq3 hKq3 => ?_
  refine wp_seq_k fun Kq4 hKq4 => ?_
  -- region 2 (packet.go:27)
  refine wp_region_lit ?_
  refine wpList_stp (stp_gv hF (wanted_none rfl) rfl rfl (gv_move rfl (hF.t rfl)) fun a hF => ?_)
  refine wpList_stp (stp_gv hF (wanted_none rfl) rfl rfl (gv_eqlNil rfl Tryd.underlying102 (hF.t rfl) (ev_const _ _)) fun a hF => ?_)
  refine wpList_stp (stp_gv hF (wanted_none rfl) rfl rfl (gv_move rfl (hF.t rfl)) fun a hF => ?_)
  refine wpList_stp (stp_gv hF (wanted_of hF rfl rfl (rfl)) rfl rfl (gv_move rfl (hF.t rfl)) fun a hF => ?_)
  refine wpList_stp (stp_gv hF (wanted_of hF rfl rfl (rfl)) rfl rfl (gv_neqF rfl (hF.t rfl) (ev_const _ _) (fun h => h rfl)) fun a hF => ?_)
  refine wpList_stp (stp_gv hF (wanted_none rfl) rfl rfl (gv_pickF rfl (hF.t rfl) (hF.t rfl)) fun a hF => ?_)
  refine wpList_stp (stp_gv hF (wanted_none rfl) rfl rfl (gv_move rfl (hF.t rfl)) fun a hF => ?_)
  refine wpList_stp (stp_gv hF (wanted_of hF rfl rfl (rfl)) rfl rfl (gv_field (r := 2) rfl Tryd.underlying40 rfl rfl Tryd.sz22 (by decide) (hF.t rfl)) fun a hF => ?_)
  refine wpList_stp (stp_gv hF (wanted_of hF rfl rfl (rfl)) rfl rfl (gv_load rfl Tryd.underlying22 rfl (hF.t rfl) (cell_ix (j := 2) (hS.cell (k := 2) rfl (rfl)) (by omega))) fun a hF => ?_)
  refine wpList_stp (stp_gv hF (wanted_of hF rfl rfl (rfl)) rfl rfl (gv_len rfl Tryd.underlying22 (hF.t rfl)) fun a hF => ?_)
  refine wpList_stp (stp_gv hF (wanted_of hF rfl rfl (rfl)) rfl rfl (gv_neqF rfl (hF.t rfl) (ev_const _ _) (by omega)) fun a hF => ?_)
  refine wpList_stp (stp_gv hF (wanted_none rfl) rfl rfl (gv_pickF rfl (hF.t rfl) (hF.t rfl)) fun a hF => ?_)
  refine wpList_nil ?_
  refine then_normal (hKq4 _ _ ?_)
  refine wp_cond_false (hF.t rfl) ?_
  refine wp_skip ?_
  refine then_normal (hKq3 _ _ ?_)
  refine wp_seq_k fun Kq5 hKq5 => ?_
  -- region 4 (packet.go:30)
  refine wp_region_lit ?_
  refine wpList_stp (stp_gv hF (wanted_none rfl) rfl rfl (gv_move rfl (hF.t rfl)) fun a hF => ?_)
  refine wpList_stp (stp_gv hF (wanted_none rfl) rfl rfl (gv_move rfl (hF.t rfl)) fun a hF => ?_)
  refine wpList_stp (stp_gv hF (wanted_none rfl) rfl rfl (gv_move rfl (hF.t rfl)) fun a hF => ?_)
  refine wpList_stp (stp_gv hF (wanted_none rfl) rfl rfl (gv_move rfl (hF.t rfl)) fun a hF => ?_)
  refine wpList_stp (stp_gv hF (wanted_none rfl) rfl rfl (gv_field (r := 2) rfl Tryd.underlying40 rfl rfl Tryd.sz22 (by decide) (hF.t rfl)) fun a hF => ?_)
  refine wpList_stp (stp_gv hF (wanted_none rfl) rfl rfl (gv_load rfl Tryd.underlying22 rfl (hF.t rfl) (cell_ix (j := 2) (hS.cell (k := 2) rfl (rfl)) (by omega))) fun a hF => ?_)
  replace hS := hS.addNil (blk 5 (([] : List UInt8).map vB ++ []))
  refine wpList_stp (stp_appB (ob := none) (l := []) (pad := []) (k := 0) hF (wanted_none rfl) rfl rfl rfl Tryd.underlying22 Tryd.ty5 rfl (ev_const _ _) (hF.t rfl) hS rfl (fun _ => ⟨rfl, rfl⟩) (by simp) (h3 _ _ hS (nw_cons rfl (nw_cons rfl (nw_cons rfl (nw_cons rfl (nw_cons rfl hT))))) (fun e he => List.mem_cons_of_mem _ (List.mem_cons_of_mem _ (List.mem_cons_of_mem _ (List.mem_cons_of_mem _ (List.mem_cons_of_mem _ he)))))) (by simp; omega) fun m mp a w hF mo mc hS => ?_)
  simp only [List.nil_append] at hF mo mc hS
  obtain ⟨m, rfl⟩ := own_some mo (by omega)
  rw [l3] at hF mc
  refine wpList_stp (stp_gv hF (wanted_none rfl) rfl rfl (gv_nilCheck rfl (hF.t rfl)) fun a hF => ?_)
  refine wpList_stp (stp_gv hF (wanted_none rfl) rfl rfl (gv_field (r := 1) rfl Tryd.underlying35 rfl rfl Tryd.sz33 (by decide) (hF.t rfl)) fun a hF => ?_)
  refine wpList_stp (stp_storeAt (1) hF (wanted_none rfl) rfl rfl Tryd.sz33 (hF.t rfl) (by omega) (hF.t rfl) rfl hS (k := 4) rfl (by simp) fun w hS => ?_)
  refine wpList_stp (stp_gv hF (wanted_none rfl) rfl rfl (gv_nilCheck rfl (hF.t rfl)) fun a hF => ?_)
  refine wpList_stp (stp_gv hF (wanted_none rfl) rfl rfl (gv_field (r := 2) rfl Tryd.underlying35 rfl rfl Tryd.sz22 (by decide) (hF.t rfl)) fun a hF => ?_)
  refine wpList_stp (stp_storeAt (2) hF (wanted_none rfl) rfl rfl Tryd.sz22 (hF.t rfl) (by omega) (hF.t rfl) rfl hS (k := 4) rfl (by simp) fun w hS => ?_)
  refine wpList_stp (stp_gv hF (wanted_none rfl) rfl rfl (gv_nilCheck rfl (hF.t rfl)) fun a hF => ?_)
  refine wpList_stp (stp_gv hF (wanted_none rfl) rfl rfl (gv_field (r := 3) rfl Tryd.underlying35 rfl rfl Tryd.sz3 (by decide) (hF.t rfl)) fun a hF => ?_)
  refine wpList_stp (stp_storeAt (3) hF (wanted_none rfl) rfl rfl Tryd.sz3 (hF.t rfl) (by omega) (ev_const _ _) rfl hS (k := 4) rfl (by simp) fun w hS => ?_)
  refine wpList_nil ?_
  refine then_normal (hKq5 _ _ ?_)
  refine wp_seq_k fun Kq6 hKq6 => ?_
  -- region 5 (packet.go:31)
  refine wp_region_lit ?_
  refine wpList_stp (stp_gv hF (wanted_none rfl) rfl rfl (gv_assign rfl (ev_const _ _)) fun a hF => ?_)
  refine wpList_nil ?_
  refine then_normal (hKq6 _ _ ?_)
  refine wp_ret ?_
  refine ret1 (fn := Tryd.f19) (t := 4) hF rfl rfl ?_
  replace hS := hS.move (k := 3) rfl
  replace hS := (hS.drop rfl).move (k := 3) rfl
  exact ⟨rfl, s, m, mp, mc, hS⟩


end Go.Proofs.YtfhalnobaeogkaaDoor

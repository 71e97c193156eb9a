/- What is proved: the contract of digest.Sum256. -/
import Derived.Test.YtfhalnobaeogkaaDoorProg
import Derived.Test.YtfhalnobaeogkaaDoorFwSep
import Derived.KernelRfl
import Derived.Test.YtfhalnobaeogkaaDoorFwApp
import Derived.Test.YtfhalnobaeogkaaDoorFwWord
import Derived.Test.YtfhalnobaeogkaaDoorDig
set_option linter.unusedVariables false
set_option linter.unusedSimpArgs false
namespace Go.Proofs.YtfhalnobaeogkaaDoor
open Go Go.RowKit Go.Fw

theorem Tryd.sz5 : (Tryd.prog.info? 5).map (·.size) = some 1 := by kernel_rfl
theorem Tryd.sz32 : (Tryd.prog.info? 32).map (·.size) = some 1 := by kernel_rfl
theorem Tryd.sz76 : (Tryd.prog.info? 76).map (·.size) = some 1 := by kernel_rfl
theorem Tryd.sz94 : (Tryd.prog.info? 94).map (·.size) = some 32 := by kernel_rfl
theorem Tryd.zv94 : (Tryd.prog.info? 94).map (·.zero) = some (some (Value.agg ((List.replicate 32 (0 : UInt8)).map vB).toArray)) := by kernel_rfl
theorem Tryd.zv153 : (Tryd.prog.info? 153).map (·.zero) = some (some (Value.agg ((List.replicate 8 (0 : UInt32)).map vW).toArray)) := by kernel_rfl
theorem Tryd.zv154 : (Tryd.prog.info? 154).map (·.zero) = some (some (Value.agg ((List.replicate 64 (0 : UInt32)).map vW).toArray)) := by kernel_rfl
theorem Tryd.ok87 : CallOk Tryd.prog 87 := ⟨_, Tryd.func87, by kernel_rfl, by kernel_rfl⟩
theorem Tryd.ok88 : CallOk Tryd.prog 88 := ⟨_, Tryd.func88, by kernel_rfl, by kernel_rfl⟩


def hi32 (x : UInt64) : UInt32 := (x >>> UInt64.ofNat 32).toUInt32
def h0 : Nat → List UInt32
  | 0 => List.replicate 8 0
  | i + 1 => (h0 i).set i (hi32 (startsL.getD i 0))
theorem h0_len : ∀ i, (h0 i).length = 8
  | 0 => rfl
  | i + 1 => by rw [h0, List.length_set, h0_len i]
def w4 (p : List UInt8) : Nat → List UInt32
  | 0 => List.replicate 64 0
  | i + 1 => (w4 p i).set (i / 4) ((w4 p i).getD (i / 4) 0 <<< UInt32.ofNat 8 ||| (p.getD i 0).toUInt32)
theorem w4_len (p : List UInt8) : ∀ i, (w4 p i).length = 64
  | 0 => List.length_replicate
  | i + 1 => by rw [w4, List.length_set, w4_len p i]
def sg0 (x : UInt32) : UInt32 := rotl x 25 ^^^ rotl x 14 ^^^ x >>> UInt32.ofNat 3
def sg1 (y : UInt32) : UInt32 := rotl y 15 ^^^ rotl y 13 ^^^ y >>> UInt32.ofNat 10
def w6 (m : List UInt32) : Nat → List UInt32
  | 0 => m
  | i + 1 => (w6 m i).set (i + 16) ((w6 m i).getD i 0 + (w6 m i).getD (i + 9) 0 + sg0 ((w6 m i).getD (i + 1) 0) + sg1 ((w6 m i).getD (i + 14) 0))
theorem w6_len (m : List UInt32) : ∀ i, (w6 m i).length = m.length
  | 0 => rfl
  | i + 1 => by rw [w6, List.length_set, w6_len m i]
structure V8 where
  a : UInt32
  c : UInt32
  d : UInt32
  e : UInt32
  f : UInt32
  g : UInt32
  k : UInt32
  l : UInt32
def tF (v : V8) (kk w : UInt32) : UInt32 := v.l + (rotl v.f 26 ^^^ rotl v.f 21 ^^^ rotl v.f 7) + (v.f &&& v.g ^^^ (v.f ^^^ (0 - 1)) &&& v.k) + kk + w
def uF (v : V8) : UInt32 := (rotl v.a 30 ^^^ rotl v.a 19 ^^^ rotl v.a 10) + (v.a &&& v.c ^^^ v.a &&& v.d ^^^ v.c &&& v.d)
def rnd (v : V8) (kk w : UInt32) : V8 := ⟨tF v kk w + uF v, v.a, v.c, v.d, v.e + tF v kk w, v.f, v.g, v.k⟩
def rds (v : V8) (W : List UInt32) : Nat → V8
  | 0 => v
  | i + 1 => rnd (rds v W i) (hi32 (stepsL.getD i 0)) (W.getD i 0)
def ofL (h : List UInt32) : V8 := ⟨h.getD 0 0, h.getD 1 0, h.getD 2 0, h.getD 3 0, h.getD 4 0, h.getD 5 0, h.getD 6 0, h.getD 7 0⟩
def toL (v : V8) : List UInt32 := [v.a, v.c, v.d, v.e, v.f, v.g, v.k, v.l]
theorem fill8 (v : V8) : Instr.fill (fun i => some (i * 1, 1)) ((List.replicate 8 (0 : UInt32)).map vW).toArray [(0, vW v.a), (1, vW v.c), (2, vW v.d), (3, vW v.e), (4, vW v.f), (5, vW v.g), (6, vW v.k), (7, vW v.l)] = some ((toL v).map vW).toArray := by kernel_rfl
theorem toL_len (v : V8) : (toL v).length = 8 := rfl
def hadd (h v : List UInt32) : Nat → List UInt32
  | 0 => h
  | i + 1 => (hadd h v i).set i ((hadd h v i).getD i 0 + v.getD i 0)
theorem hadd_len (h v : List UInt32) : ∀ i, (hadd h v i).length = h.length
  | 0 => rfl
  | i + 1 => by rw [hadd, List.length_set, hadd_len h v i]
def wS (p : List UInt8) : List UInt32 := w6 (w4 p 64) 48
theorem wS_len (p : List UInt8) : (wS p).length = 64 := by rw [wS, w6_len, w4_len]
def blkS (h : List UInt32) (p : List UInt8) : List UInt32 := hadd h (toL (rds (ofL h) (wS p) 64)) 8
theorem blkS_len (h : List UInt32) (p : List UInt8) : (blkS h p).length = h.length := hadd_len _ _ _
def hsA (pl : List UInt8) : Nat → List UInt32
  | 0 => h0 8
  | j + 1 => blkS (hsA pl j) (pl.drop (64 * j))
theorem hsA_len (pl : List UInt8) : ∀ j, (hsA pl j).length = 8
  | 0 => h0_len 8
  | j + 1 => by rw [hsA, blkS_len, hsA_len pl j]
def outS (h : List UInt32) : Nat → List UInt8
  | 0 => List.replicate 32 0
  | i + 1 => (outS h i).set i (h.getD (i / 4) 0 >>> UInt32.ofNat (24 - 8 * (i % 4))).toUInt8
theorem outS_len (h : List UInt32) : ∀ i, (outS h i).length = 32
  | 0 => List.length_replicate
  | i + 1 => by rw [outS, List.length_set, outS_len h i]
def sum256 (bl : List UInt8) : List UInt8 := outS (hsA (padF bl) ((padF bl).length / 64)) 32
theorem sum256_len (bl : List UInt8) : (sum256 bl).length = 32 := outS_len _ _


set_option maxHeartbeats 4000000 in
theorem sum_ok {bv : Value} {bl : List UInt8} {w0 : World} (hG : Glob w0) (hb : Rd w0 bv (bl.map vB)) (hn : bl.length ≤ 549755813888) :
    Calls Tryd.prog 65 #[bv] w0 fun e w' => e = .returned (.agg ((sum256 bl).map vB).toArray) ∧ Ext w0 w' := by
  refine calls_start 221 Tryd.func65 rfl Tryd.ntmps65 rfl fun a hF => ?_
  have hS := St.refl w0
  refine wp_seq_k fun Kq1 hKq1 => ?_
  -- region 0 (digest.go:50)
  refine wp_region_lit ?_
  refine wpList_stp (stp_alloc hF (wanted_none rfl) rfl rfl rfl Tryd.zv94 rfl hS fun out a w hF hS => ?_)
  refine wpList_nil ?_
  refine then_normal (hKq1 _ _ ?_)
  refine wp_seq_k fun Kq2 hKq2 => ?_
  -- region 1 (digest.go:51)
  refine wp_region_lit ?_
  refine wpList_stp (stp_alloc hF (wanted_none rfl) rfl rfl rfl Tryd.zv153 rfl hS fun h a w hF hS => ?_)
  refine wpList_nil ?_
  refine then_normal (hKq2 _ _ ?_)
  refine wp_seq_k fun Kq3 hKq3 => ?_
  refine wp_seq_k fun Kq4 hKq4 => ?_
  -- region 2 (digest.go:52)
  refine wp_region_lit ?_
  refine wpList_stp (stp_gv hF (wanted_none rfl) rfl rfl (gv_move rfl (ev_const _ _)) fun a hF => ?_)
  refine wpList_nil ?_
  refine then_normal (hKq4 _ _ ?_)
  refine wp_block ?_
  refine wp_loop_n (fun n a w => ∃ i, i ≤ 8 ∧ n = 8 - i ∧ Fr 221 a [(0, bv), (2, .pointer (some ⟨out, 0, none⟩)), (3, .pointer (some ⟨h, 0, none⟩)), (26, vI i)] ∧ St w0 w [⟨true, some h, blkW 153 (h0 i)⟩, ⟨true, some out, blkB 94 (List.replicate 32 0)⟩]) 8 ⟨0, by omega, by omega, hF.sub ⟨rfl, rfl, rfl, rfl, trivial⟩, hS⟩ ?_
  rintro n a w ⟨i, hi, hn, hF, hS⟩
  refine wp_seq_k fun Kq5 hKq5 => ?_
  -- region 3 (digest.go:52)
  refine wp_region_lit ?_
  refine wpList_stp (stp_gv hF (wanted_none rfl) rfl rfl (gv_lss rfl (hF.t rfl) (ev_const _ _)) fun a hF => ?_)
  refine wpList_nil ?_
  refine then_normal (hKq5 _ _ ?_)
  refine wp_seq_k fun Kq6 hKq6 => ?_
  refine cond_dec (hF.t rfl) (fun h27 => ?_) (fun h27 => ?_)
  ·
    refine wp_skip ?_
    refine then_normal (hKq6 _ _ ?_)
    refine wp_seq_k fun Kq7 hKq7 => ?_
    refine wp_block ?_
    refine wp_seq_k fun Kq8 hKq8 => ?_
    -- region 4 (digest.go:52)
    refine wp_region_lit ?_
    refine wpList_stp (stp_gv hF (wanted_none rfl) rfl rfl (gv_move rfl (hF.t rfl)) fun a hF => ?_)
    refine wpList_stp (stp_gv hF (wanted_none rfl) rfl rfl (gv_assign rfl (hF.t rfl)) fun a hF => ?_)
    refine wpList_nil ?_
    refine then_normal (hKq8 _ _ ?_)
    -- region 5 (digest.go:53)
    refine wp_region_lit ?_
    refine wpList_stp (stp_gv hF (wanted_none rfl) rfl rfl (gv_move rfl (hF.t rfl)) fun a hF => ?_)
    refine wpList_stp (stp_gv hF (wanted_none rfl) rfl rfl (gv_move rfl (hF.t rfl)) fun a hF => ?_)
    refine wpList_stp (stp_gv hF (wanted_none rfl) rfl rfl (gv_indexArr rfl Tryd.underlying148 Tryd.sz76 rfl (hF.t rfl) (by omega)) fun a hF => ?_)
    refine wpList_stp (stp_gv hF (wanted_none rfl) rfl rfl (gv_load rfl Tryd.underlying76 rfl (hF.t rfl) (cell_ix ((hG.ext (hS.toExt (nw_cons rfl (nw_cons rfl nw_nil)))).st i (by omega)) (by omega))) fun a hF => ?_)
    refine wpList_stp (stp_gv hF (wanted_none rfl) rfl rfl (gv_d_shr (n := 32) rfl (hF.t rfl) rfl (by omega)) fun a hF => ?_)
    refine wpList_stp (stp_gv hF (wanted_none rfl) rfl rfl (gv_conv_d_w rfl Tryd.underlying76 Tryd.underlying32 (hF.t rfl)) fun a hF => ?_)
    refine wpList_stp (stp_gv hF (wanted_none rfl) rfl rfl (gv_indexArr rfl Tryd.underlying153 Tryd.sz32 (hF.t rfl) (hF.t rfl) (by omega)) fun a hF => ?_)
    refine wpList_stp (stp_storeW (i) hF (wanted_none rfl) rfl rfl Tryd.sz32 (hF.t rfl) (by omega) (hF.t rfl) hS (k := 0) rfl (by rw [h0_len]; omega) fun w hS => ?_)
    refine wpList_nil ?_
    refine block_normal ?_
    refine then_normal (hKq7 _ _ ?_)
    -- region 6 (digest.go:52)
    refine wp_region_lit ?_
    refine wpList_stp (stp_gv hF (wanted_none rfl) rfl rfl (gv_nadd (n := 1) rfl (hF.t rfl) rfl (by omega)) fun a hF => ?_)
    refine wpList_stp (stp_gv hF (wanted_none rfl) rfl rfl (gv_move rfl (hF.t rfl)) fun a hF => ?_)
    refine wpList_nil ?_
    refine then_normal ?_
    exact ⟨n - 1, by omega, i + 1, by omega, by omega, hF.sub ⟨rfl, rfl, rfl, rfl, trivial⟩, hS⟩
  ·
    refine wp_exit ?_
    refine then_exit ?_
    refine then_exit ?_
    refine block_exit ?_
    refine then_normal (hKq3 _ _ ?_)
    refine wp_seq_k fun Kq9 hKq9 => ?_
    refine wp_seq_k fun Kq10 hKq10 => ?_
    -- region 7 (digest.go:55)
    refine wp_region_lit ?_
    refine wpList_stp (stp_gv hF (wanted_none rfl) rfl rfl (gv_move rfl (hF.t rfl)) fun a hF => ?_)
    refine wpList_stp (stp_call hF (wanted_none rfl) rfl rfl Tryd.ok87 rfl (Evs.cons (hF.t rfl) (Evs.cons (ev_const _ _) Evs.nil)) (pad_ok (hb.ext (hS.toExt (nw_cons rfl (nw_cons rfl nw_nil)))) (by omega)) fun e w hh => ?_)
    obtain ⟨po, pp, rfl, poo, poc, hN⟩ := hh
    refine ⟨_, rfl, fun a hF => ?_⟩
    replace hS := hS.join hN (nw_cons rfl nw_nil)
    simp only [List.cons_append, List.nil_append] at hS
    clear hN
    refine wpList_stp (stp_gv hF (wanted_none rfl) rfl rfl (gv_assign rfl (hF.t rfl)) fun a hF => ?_)
    refine wpList_nil ?_
    refine then_normal (hKq10 _ _ ?_)
    refine wp_block ?_
    obtain ⟨PL, hPL⟩ : ∃ PL, PL = padF bl := ⟨_, rfl⟩
    have hP := own_rd (w0 := w0) (T := [⟨true, po, blk 5 ((padF bl).map vB ++ pp)⟩]) List.mem_cons_self poo rfl poc
    have hM := padF_mul bl
    rw [← hPL] at hP hM hS hF
    obtain ⟨M, hM0⟩ : ∃ M, PL.length / 64 = M := ⟨_, rfl⟩
    rw [hM0] at hM
    obtain rfl : i = 8 := by omega
    refine wp_loop_n (fun n a w => ∃ (j : Nat) (v : Value), j ≤ M ∧ n = M - j ∧ SRd w0 [⟨true, po, blk 5 (PL.map vB ++ pp)⟩] v ((PL.drop (64 * j)).map vB) ∧ Fr 221 a [(2, .pointer (some ⟨out, 0, none⟩)), (3, .pointer (some ⟨h, 0, none⟩)), (5, v)] ∧ St w0 w [⟨true, po, blk 5 (PL.map vB ++ pp)⟩, ⟨true, some h, blkW 153 (hsA PL j)⟩, ⟨true, some out, blkB 94 (List.replicate 32 0)⟩]) M ⟨0, _, by omega, by omega, hP, hF.sub ⟨rfl, rfl, rfl, trivial⟩, hS⟩ ?_
    rintro n a w ⟨j, v, hj, hn, hP, hF, hS⟩
    obtain ⟨A1, c1, rfl, hc1, hc2, hc3⟩ := (hP w _ hS (nw_cons rfl (nw_cons rfl (nw_cons rfl nw_nil))) (by simp)).isB
    have hdl : (PL.drop (64 * j)).length = 64 * M - 64 * j := by rw [List.length_drop, hM]
    have hHl := hsA_len PL j
    refine wp_seq_k fun Kq11 hKq11 => ?_
    refine wp_seq_k fun Kq12 hKq12 => ?_
    -- region 8 (digest.go:55)
    refine wp_region_lit ?_
    refine wpList_stp (stp_gv hF (wanted_none rfl) rfl rfl (gv_move rfl (hF.t rfl)) fun a hF => ?_)
    refine wpList_stp (stp_gv hF (wanted_none rfl) rfl rfl (gv_len rfl Tryd.underlying22 (hF.t rfl)) fun a hF => ?_)
    refine wpList_stp (stp_gv hF (wanted_none rfl) rfl rfl (gv_gtr rfl (hF.t rfl) (ev_const _ _)) fun a hF => ?_)
    refine wpList_nil ?_
    refine then_normal (hKq12 _ _ ?_)
    refine cond_dec (hF.t rfl) (fun h41 => ?_) (fun h41 => ?_)
    ·
      obtain ⟨b1, o1, rfl, _⟩ := hc3 (by omega)
      refine wp_skip ?_
      refine then_normal (hKq11 _ _ ?_)
      refine wp_seq_k fun Kq13 hKq13 => ?_
      refine wp_block ?_
      refine wp_seq_k fun Kq14 hKq14 => ?_
      -- region 10 (digest.go:56)
      refine wp_region_lit ?_
      refine wpList_stp (stp_alloc hF (wanted_none rfl) rfl rfl rfl Tryd.zv154 rfl hS fun wb a w hF hS => ?_)
      refine wpList_nil ?_
      refine then_normal (hKq14 _ _ ?_)
      refine wp_seq_k fun Kq15 hKq15 => ?_
      refine wp_seq_k fun Kq16 hKq16 => ?_
      -- region 11 (digest.go:57)
      refine wp_region_lit ?_
      refine wpList_stp (stp_gv hF (wanted_none rfl) rfl rfl (gv_move rfl (ev_const _ _)) fun a hF => ?_)
      refine wpList_nil ?_
      refine then_normal (hKq16 _ _ ?_)
      refine wp_block ?_
      refine wp_loop_n (fun q a w => ∃ i, i ≤ 64 ∧ q = 64 - i ∧ Fr 221 a [(2, .pointer (some ⟨out, 0, none⟩)), (3, .pointer (some ⟨h, 0, none⟩)), (5, .slice (some ⟨b1, o1, none⟩) (PL.drop (64 * j)).length c1), (6, .pointer (some ⟨wb, 0, none⟩)), (44, vI i)] ∧ St w0 w [⟨true, some wb, blkW 154 (w4 (PL.drop (64 * j)) i)⟩, ⟨true, po, blk 5 (PL.map vB ++ pp)⟩, ⟨true, some h, blkW 153 (hsA PL j)⟩, ⟨true, some out, blkB 94 (List.replicate 32 0)⟩]) 64 ⟨0, by omega, by omega, hF.sub ⟨rfl, rfl, rfl, rfl, rfl, trivial⟩, hS⟩ ?_
      rintro q a w ⟨i, hi, hq, hF, hS⟩
      refine wp_seq_k fun Kq17 hKq17 => ?_
      -- region 12 (digest.go:57)
      refine wp_region_lit ?_
      refine wpList_stp (stp_gv hF (wanted_none rfl) rfl rfl (gv_lss rfl (hF.t rfl) (ev_const _ _)) fun a hF => ?_)
      refine wpList_nil ?_
      refine then_normal (hKq17 _ _ ?_)
      refine wp_seq_k fun Kq18 hKq18 => ?_
      refine cond_dec (hF.t rfl) (fun h45 => ?_) (fun h45 => ?_)
      ·
        refine wp_skip ?_
        refine then_normal (hKq18 _ _ ?_)
        refine wp_seq_k fun Kq19 hKq19 => ?_
        refine wp_block ?_
        refine wp_seq_k fun Kq20 hKq20 => ?_
        -- region 13 (digest.go:57)
        refine wp_region_lit ?_
        refine wpList_stp (stp_gv hF (wanted_none rfl) rfl rfl (gv_move rfl (hF.t rfl)) fun a hF => ?_)
        refine wpList_stp (stp_gv hF (wanted_none rfl) rfl rfl (gv_assign rfl (hF.t rfl)) fun a hF => ?_)
        refine wpList_nil ?_
        refine then_normal (hKq20 _ _ ?_)
        -- region 14 (digest.go:58)
        refine Fw.wp_region_draw (by kernel_rfl) fun w hx => ?_
        replace hS := hS.ext hx
        clear hx
        refine run_head0 (n := 14) _ hF (by kernel_rfl) rfl ?_
        refine dw_gv hF rfl (wanted_none rfl) rfl rfl (fun w hx => gv_move rfl (hF.t rfl)) fun a hF => ?_
        refine dw_gv hF rfl (wanted_none rfl) rfl rfl (fun w hx => gv_nquo (n := 4) rfl (hF.t rfl) rfl (by omega) (by omega)) fun a hF => ?_
        refine dw_gv hF rfl (wanted_none rfl) rfl rfl (fun w hx => gv_move rfl (hF.t rfl)) fun a hF => ?_
        refine dw_gv hF rfl (wanted_none rfl) rfl rfl (fun w hx => gv_nquo (n := 4) rfl (hF.t rfl) rfl (by omega) (by omega)) fun a hF => ?_
        refine dw_gv hF rfl (wanted_none rfl) rfl rfl (fun w hx => gv_indexArr rfl Tryd.underlying154 Tryd.sz32 (hF.t rfl) (hF.t rfl) (by omega)) fun a hF => ?_
        refine dw_gv hF rfl (wanted_none rfl) rfl rfl (fun w hx => gv_load rfl Tryd.underlying32 rfl (hF.t rfl) (cell_ix ((hS.ext hx).cellW (k := 0) rfl (i / 4) (by rw [w4_len]; omega)) (by omega))) fun a hF => ?_
        refine dw_gv hF rfl (wanted_none rfl) rfl rfl (fun w hx => gv_w_shl (n := 8) rfl (hF.t rfl) rfl (by omega)) fun a hF => ?_
        refine dw_gv hF rfl (wanted_none rfl) rfl rfl (fun w hx => gv_move rfl (hF.t rfl)) fun a hF => ?_
        refine dw_gv hF rfl (wanted_none rfl) rfl rfl (fun w hx => gv_move rfl (hF.t rfl)) fun a hF => ?_
        refine dw_gv hF rfl (wanted_none rfl) rfl rfl (fun w hx => gv_indexSl rfl Tryd.underlying22 Tryd.sz5 (hF.t rfl) (hF.t rfl) (by omega)) fun a hF => ?_
        refine dw_gv hF rfl (wanted_none rfl) rfl rfl (fun w hx => gv_load rfl Tryd.underlying5 rfl (hF.t rfl) (cell_ix ((hP _ _ (hS.ext hx) (nw_cons rfl (nw_cons rfl (nw_cons rfl (nw_cons rfl nw_nil)))) (by simp)).cellB i (by omega)) (by omega))) fun a hF => ?_
        refine dw_gv hF rfl (wanted_none rfl) rfl rfl (fun w hx => gv_conv_b_w rfl Tryd.underlying5 Tryd.underlying32 (hF.t rfl)) fun a hF => ?_
        refine dw_gv hF rfl (wanted_none rfl) rfl rfl (fun w hx => gv_w_or rfl (hF.t rfl) (hF.t rfl)) fun a hF => ?_
        refine dw_gv hF rfl (wanted_none rfl) rfl rfl (fun w hx => gv_indexArr rfl Tryd.underlying154 Tryd.sz32 (hF.t rfl) (hF.t rfl) (by omega)) fun a hF => ?_
        refine dw_nil fun a w hA hx => ?_
        replace hF := hA _ hF
        replace hS := hS.ext hx
        clear hA hx
        refine run_stp (by kernel_rfl) rfl (stp_storeW (i / 4) hF (wanted_none rfl) rfl rfl Tryd.sz32 (hF.t rfl) (by omega) (hF.t rfl) hS (k := 0) rfl (by rw [w4_len]; omega) fun w hS => ?_)
        refine run_done (by decide) ?_
        refine block_normal ?_
        refine then_normal (hKq19 _ _ ?_)
        -- region 15 (digest.go:57)
        refine wp_region_lit ?_
        refine wpList_stp (stp_gv hF (wanted_none rfl) rfl rfl (gv_nadd (n := 1) rfl (hF.t rfl) rfl (by omega)) fun a hF => ?_)
        refine wpList_stp (stp_gv hF (wanted_none rfl) rfl rfl (gv_move rfl (hF.t rfl)) fun a hF => ?_)
        refine wpList_nil ?_
        refine then_normal ?_
        exact ⟨q - 1, by omega, i + 1, by omega, by omega, hF.sub ⟨rfl, rfl, rfl, rfl, rfl, trivial⟩, hS⟩
      ·
        refine wp_exit ?_
        refine then_exit ?_
        refine then_exit ?_
        refine block_exit ?_
        refine then_normal (hKq15 _ _ ?_)
        refine wp_seq_k fun Kq21 hKq21 => ?_
        refine wp_seq_k fun Kq22 hKq22 => ?_
        -- region 16 (digest.go:60)
        refine wp_region_lit ?_
        refine wpList_stp (stp_gv hF (wanted_none rfl) rfl rfl (gv_assign rfl (ev_const _ _)) fun a hF => ?_)
        refine wpList_nil ?_
        refine then_normal (hKq22 _ _ ?_)
        refine wp_block ?_
        obtain rfl : i = 64 := by omega
        refine wp_loop_n (fun q a w => ∃ i, i ≤ 48 ∧ q = 48 - i ∧ Fr 221 a [(2, .pointer (some ⟨out, 0, none⟩)), (3, .pointer (some ⟨h, 0, none⟩)), (5, .slice (some ⟨b1, o1, none⟩) (PL.drop (64 * j)).length c1), (6, .pointer (some ⟨wb, 0, none⟩)), (8, vI (i + 16))] ∧ St w0 w [⟨true, some wb, blkW 154 (w6 (w4 (PL.drop (64 * j)) 64) i)⟩, ⟨true, po, blk 5 (PL.map vB ++ pp)⟩, ⟨true, some h, blkW 153 (hsA PL j)⟩, ⟨true, some out, blkB 94 (List.replicate 32 0)⟩]) 48 ⟨0, by omega, by omega, hF.sub ⟨rfl, rfl, rfl, rfl, rfl, trivial⟩, hS⟩ ?_
        rintro q a w ⟨i, hi, hq, hF, hS⟩
        refine wp_seq_k fun Kq23 hKq23 => ?_
        refine wp_seq_k fun Kq24 hKq24 => ?_
        -- region 17 (digest.go:60)
        refine wp_region_lit ?_
        refine wpList_stp (stp_gv hF (wanted_none rfl) rfl rfl (gv_move rfl (hF.t rfl)) fun a hF => ?_)
        refine wpList_stp (stp_gv hF (wanted_none rfl) rfl rfl (gv_lss rfl (hF.t rfl) (ev_const _ _)) fun a hF => ?_)
        refine wpList_nil ?_
        refine then_normal (hKq24 _ _ ?_)
        refine cond_dec (hF.t rfl) (fun h63 => ?_) (fun h63 => ?_)
        ·
          refine wp_skip ?_
          refine then_normal (hKq23 _ _ ?_)
          refine wp_seq_k fun Kq25 hKq25 => ?_
          refine wp_block ?_
          refine wp_seq_k fun Kq26 hKq26 => ?_
          -- region 19 (digest.go:61)
          refine Fw.wp_region_draw (by kernel_rfl) fun w hx => ?_
          replace hS := hS.ext hx
          clear hx
          refine run_head0 (n := 10) _ hF (by kernel_rfl) rfl ?_
          refine dw_gv hF rfl (wanted_none rfl) rfl rfl (fun w hx => gv_move rfl (hF.t rfl)) fun a hF => ?_
          refine dw_gv hF rfl (wanted_none rfl) rfl rfl (fun w hx => gv_nsub (n := 15) rfl (hF.t rfl) rfl (by omega) (by omega)) fun a hF => ?_
          refine dw_gv hF rfl (wanted_none rfl) rfl rfl (fun w hx => gv_indexArr rfl Tryd.underlying154 Tryd.sz32 (hF.t rfl) (hF.t rfl) (by omega)) fun a hF => ?_
          refine dw_gv hF rfl (wanted_none rfl) rfl rfl (fun w hx => gv_load rfl Tryd.underlying32 rfl (hF.t rfl) (cell_ix ((hS.ext hx).cellW (k := 0) rfl (i + 1) (by rw [w6_len, w4_len]; omega)) (by omega))) fun a hF => ?_
          refine dw_gv hF rfl (wanted_none rfl) rfl rfl (fun w hx => gv_move rfl (hF.t rfl)) fun a hF => ?_
          refine dw_gv hF rfl (wanted_none rfl) rfl rfl (fun w hx => gv_nsub (n := 2) rfl (hF.t rfl) rfl (by omega) (by omega)) fun a hF => ?_
          refine dw_gv hF rfl (wanted_none rfl) rfl rfl (fun w hx => gv_indexArr rfl Tryd.underlying154 Tryd.sz32 (hF.t rfl) (hF.t rfl) (by omega)) fun a hF => ?_
          refine dw_gv hF rfl (wanted_none rfl) rfl rfl (fun w hx => gv_load rfl Tryd.underlying32 rfl (hF.t rfl) (cell_ix ((hS.ext hx).cellW (k := 0) rfl (i + 14) (by rw [w6_len, w4_len]; omega)) (by omega))) fun a hF => ?_
          refine dw_gv hF rfl (wanted_none rfl) rfl rfl (fun w hx => gv_assign rfl (hF.t rfl)) fun a hF => ?_
          refine dw_gv hF rfl (wanted_none rfl) rfl rfl (fun w hx => gv_assign rfl (hF.t rfl)) fun a hF => ?_
          refine dw_nil fun a w hA hx => ?_
          replace hF := hA _ hF
          replace hS := hS.ext hx
          clear hA hx
          refine run_done (by decide) ?_
          refine then_normal (hKq26 _ _ ?_)
          -- region 20 (digest.go:62)
          refine Fw.wp_region_draw (by kernel_rfl) fun w hx => ?_
          replace hS := hS.ext hx
          clear hx
          refine run_head0 (n := 29) _ hF (by kernel_rfl) rfl ?_
          refine dw_gv hF rfl (wanted_none rfl) rfl rfl (fun w hx => gv_move rfl (hF.t rfl)) fun a hF => ?_
          refine dw_gv hF rfl (wanted_none rfl) rfl rfl (fun w hx => gv_move rfl (hF.t rfl)) fun a hF => ?_
          refine dw_gv hF rfl (wanted_none rfl) rfl rfl (fun w hx => gv_nsub (n := 16) rfl (hF.t rfl) rfl (by omega) (by omega)) fun a hF => ?_
          refine dw_gv hF rfl (wanted_none rfl) rfl rfl (fun w hx => gv_indexArr rfl Tryd.underlying154 Tryd.sz32 (hF.t rfl) (hF.t rfl) (by omega)) fun a hF => ?_
          refine dw_gv hF rfl (wanted_none rfl) rfl rfl (fun w hx => gv_load rfl Tryd.underlying32 rfl (hF.t rfl) (cell_ix ((hS.ext hx).cellW (k := 0) rfl (i) (by rw [w6_len, w4_len]; omega)) (by omega))) fun a hF => ?_
          refine dw_gv hF rfl (wanted_none rfl) rfl rfl (fun w hx => gv_move rfl (hF.t rfl)) fun a hF => ?_
          refine dw_gv hF rfl (wanted_none rfl) rfl rfl (fun w hx => gv_nsub (n := 7) rfl (hF.t rfl) rfl (by omega) (by omega)) fun a hF => ?_
          refine dw_gv hF rfl (wanted_none rfl) rfl rfl (fun w hx => gv_indexArr rfl Tryd.underlying154 Tryd.sz32 (hF.t rfl) (hF.t rfl) (by omega)) fun a hF => ?_
          refine dw_gv hF rfl (wanted_none rfl) rfl rfl (fun w hx => gv_load rfl Tryd.underlying32 rfl (hF.t rfl) (cell_ix ((hS.ext hx).cellW (k := 0) rfl (i + 9) (by rw [w6_len, w4_len]; omega)) (by omega))) fun a hF => ?_
          refine dw_gv hF rfl (wanted_none rfl) rfl rfl (fun w hx => gv_w_add rfl (hF.t rfl) (hF.t rfl)) fun a hF => ?_
          refine dw_gv hF rfl (wanted_none rfl) rfl rfl (fun w hx => gv_move rfl (hF.t rfl)) fun a hF => ?_
          refine dw_call hF rfl (wanted_none rfl) rfl rfl Tryd.ok88 rfl (Evs.cons (hF.t rfl) (Evs.cons (ev_const _ _) Evs.nil)) (fun w hx => rot_ok (k := 25) _ _ (by decide) (by decide)) fun a hF => ?_
          refine dw_gv hF rfl (wanted_none rfl) rfl rfl (fun w hx => gv_move rfl (hF.t rfl)) fun a hF => ?_
          refine dw_call hF rfl (wanted_none rfl) rfl rfl Tryd.ok88 rfl (Evs.cons (hF.t rfl) (Evs.cons (ev_const _ _) Evs.nil)) (fun w hx => rot_ok (k := 14) _ _ (by decide) (by decide)) fun a hF => ?_
          refine dw_gv hF rfl (wanted_none rfl) rfl rfl (fun w hx => gv_w_xor rfl (hF.t rfl) (hF.t rfl)) fun a hF => ?_
          refine dw_gv hF rfl (wanted_none rfl) rfl rfl (fun w hx => gv_move rfl (hF.t rfl)) fun a hF => ?_
          refine dw_gv hF rfl (wanted_none rfl) rfl rfl (fun w hx => gv_w_shr (n := 3) rfl (hF.t rfl) rfl (by omega)) fun a hF => ?_
          refine dw_gv hF rfl (wanted_none rfl) rfl rfl (fun w hx => gv_w_xor rfl (hF.t rfl) (hF.t rfl)) fun a hF => ?_
          refine dw_gv hF rfl (wanted_none rfl) rfl rfl (fun w hx => gv_w_add rfl (hF.t rfl) (hF.t rfl)) fun a hF => ?_
          refine dw_gv hF rfl (wanted_none rfl) rfl rfl (fun w hx => gv_move rfl (hF.t rfl)) fun a hF => ?_
          refine dw_call hF rfl (wanted_none rfl) rfl rfl Tryd.ok88 rfl (Evs.cons (hF.t rfl) (Evs.cons (ev_const _ _) Evs.nil)) (fun w hx => rot_ok (k := 15) _ _ (by decide) (by decide)) fun a hF => ?_
          refine dw_gv hF rfl (wanted_none rfl) rfl rfl (fun w hx => gv_move rfl (hF.t rfl)) fun a hF => ?_
          refine dw_call hF rfl (wanted_none rfl) rfl rfl Tryd.ok88 rfl (Evs.cons (hF.t rfl) (Evs.cons (ev_const _ _) Evs.nil)) (fun w hx => rot_ok (k := 13) _ _ (by decide) (by decide)) fun a hF => ?_
          refine dw_gv hF rfl (wanted_none rfl) rfl rfl (fun w hx => gv_w_xor rfl (hF.t rfl) (hF.t rfl)) fun a hF => ?_
          refine dw_gv hF rfl (wanted_none rfl) rfl rfl (fun w hx => gv_move rfl (hF.t rfl)) fun a hF => ?_
          refine dw_gv hF rfl (wanted_none rfl) rfl rfl (fun w hx => gv_w_shr (n := 10) rfl (hF.t rfl) rfl (by omega)) fun a hF => ?_
          refine dw_gv hF rfl (wanted_none rfl) rfl rfl (fun w hx => gv_w_xor rfl (hF.t rfl) (hF.t rfl)) fun a hF => ?_
          refine dw_gv hF rfl (wanted_none rfl) rfl rfl (fun w hx => gv_w_add rfl (hF.t rfl) (hF.t rfl)) fun a hF => ?_
          refine dw_gv hF rfl (wanted_none rfl) rfl rfl (fun w hx => gv_indexArr rfl Tryd.underlying154 Tryd.sz32 (hF.t rfl) (hF.t rfl) (by omega)) fun a hF => ?_
          refine dw_nil fun a w hA hx => ?_
          replace hF := hA _ hF
          replace hS := hS.ext hx
          clear hA hx
          refine run_stp (by kernel_rfl) rfl (stp_storeW (i + 16) hF (wanted_none rfl) rfl rfl Tryd.sz32 (hF.t rfl) (by omega) (hF.t rfl) hS (k := 0) rfl (by rw [w6_len, w4_len]; omega) fun w hS => ?_)
          refine run_done (by decide) ?_
          refine block_normal ?_
          refine then_normal (hKq25 _ _ ?_)
          -- region 18 (digest.go:60)
          refine wp_region_lit ?_
          refine wpList_stp (stp_gv hF (wanted_none rfl) rfl rfl (gv_move rfl (hF.t rfl)) fun a hF => ?_)
          refine wpList_stp (stp_gv hF (wanted_none rfl) rfl rfl (gv_nadd (n := 1) rfl (hF.t rfl) rfl (by omega)) fun a hF => ?_)
          refine wpList_stp (stp_gv hF (wanted_none rfl) rfl rfl (gv_assign rfl (hF.t rfl)) fun a hF => ?_)
          refine wpList_nil ?_
          refine then_normal ?_
          exact ⟨q - 1, by omega, i + 1, by omega, by omega, hF.sub ⟨rfl, rfl, rfl, rfl, rfl, trivial⟩, hS⟩
        ·
          refine wp_exit ?_
          refine then_exit ?_
          refine then_exit ?_
          refine block_exit ?_
          refine then_normal (hKq21 _ _ ?_)
          refine wp_seq_k fun Kq27 hKq27 => ?_
          obtain rfl : i = 48 := by omega
          obtain ⟨W, hW⟩ : ∃ W, W = wS (PL.drop (64 * j)) := ⟨_, rfl⟩
          obtain ⟨Hh, hHh⟩ : ∃ Hh, Hh = hsA PL j := ⟨_, rfl⟩
          have hWl := wS_len (PL.drop (64 * j))
          rw [show w6 (w4 (PL.drop (64 * j)) 64) 48 = W from hW.symm, ← hHh] at hS
          rw [← hW] at hWl
          rw [← hHh] at hHl
          -- region 21 (digest.go:64)
          refine Fw.wp_region_draw (by kernel_rfl) fun w hx => ?_
          replace hS := hS.ext hx
          clear hx
          refine run_head0 (n := 24) _ hF (by kernel_rfl) rfl ?_
          refine dw_gv hF rfl (wanted_none rfl) rfl rfl (fun w hx => gv_indexArr (q := 0) rfl Tryd.underlying153 Tryd.sz32 (hF.t rfl) rfl (by omega)) fun a hF => ?_
          refine dw_gv hF rfl (wanted_none rfl) rfl rfl (fun w hx => gv_load rfl Tryd.underlying32 rfl (hF.t rfl) (cell_ix ((hS.ext hx).cellW (k := 2) rfl (0) (by rw [hHl]; omega)) (by omega))) fun a hF => ?_
          refine dw_gv hF rfl (wanted_none rfl) rfl rfl (fun w hx => gv_indexArr (q := 1) rfl Tryd.underlying153 Tryd.sz32 (hF.t rfl) rfl (by omega)) fun a hF => ?_
          refine dw_gv hF rfl (wanted_none rfl) rfl rfl (fun w hx => gv_load rfl Tryd.underlying32 rfl (hF.t rfl) (cell_ix ((hS.ext hx).cellW (k := 2) rfl (1) (by rw [hHl]; omega)) (by omega))) fun a hF => ?_
          refine dw_gv hF rfl (wanted_none rfl) rfl rfl (fun w hx => gv_indexArr (q := 2) rfl Tryd.underlying153 Tryd.sz32 (hF.t rfl) rfl (by omega)) fun a hF => ?_
          refine dw_gv hF rfl (wanted_none rfl) rfl rfl (fun w hx => gv_load rfl Tryd.underlying32 rfl (hF.t rfl) (cell_ix ((hS.ext hx).cellW (k := 2) rfl (2) (by rw [hHl]; omega)) (by omega))) fun a hF => ?_
          refine dw_gv hF rfl (wanted_none rfl) rfl rfl (fun w hx => gv_indexArr (q := 3) rfl Tryd.underlying153 Tryd.sz32 (hF.t rfl) rfl (by omega)) fun a hF => ?_
          refine dw_gv hF rfl (wanted_none rfl) rfl rfl (fun w hx => gv_load rfl Tryd.underlying32 rfl (hF.t rfl) (cell_ix ((hS.ext hx).cellW (k := 2) rfl (3) (by rw [hHl]; omega)) (by omega))) fun a hF => ?_
          refine dw_gv hF rfl (wanted_none rfl) rfl rfl (fun w hx => gv_indexArr (q := 4) rfl Tryd.underlying153 Tryd.sz32 (hF.t rfl) rfl (by omega)) fun a hF => ?_
          refine dw_gv hF rfl (wanted_none rfl) rfl rfl (fun w hx => gv_load rfl Tryd.underlying32 rfl (hF.t rfl) (cell_ix ((hS.ext hx).cellW (k := 2) rfl (4) (by rw [hHl]; omega)) (by omega))) fun a hF => ?_
          refine dw_gv hF rfl (wanted_none rfl) rfl rfl (fun w hx => gv_indexArr (q := 5) rfl Tryd.underlying153 Tryd.sz32 (hF.t rfl) rfl (by omega)) fun a hF => ?_
          refine dw_gv hF rfl (wanted_none rfl) rfl rfl (fun w hx => gv_load rfl Tryd.underlying32 rfl (hF.t rfl) (cell_ix ((hS.ext hx).cellW (k := 2) rfl (5) (by rw [hHl]; omega)) (by omega))) fun a hF => ?_
          refine dw_gv hF rfl (wanted_none rfl) rfl rfl (fun w hx => gv_indexArr (q := 6) rfl Tryd.underlying153 Tryd.sz32 (hF.t rfl) rfl (by omega)) fun a hF => ?_
          refine dw_gv hF rfl (wanted_none rfl) rfl rfl (fun w hx => gv_load rfl Tryd.underlying32 rfl (hF.t rfl) (cell_ix ((hS.ext hx).cellW (k := 2) rfl (6) (by rw [hHl]; omega)) (by omega))) fun a hF => ?_
          refine dw_gv hF rfl (wanted_none rfl) rfl rfl (fun w hx => gv_indexArr (q := 7) rfl Tryd.underlying153 Tryd.sz32 (hF.t rfl) rfl (by omega)) fun a hF => ?_
          refine dw_gv hF rfl (wanted_none rfl) rfl rfl (fun w hx => gv_load rfl Tryd.underlying32 rfl (hF.t rfl) (cell_ix ((hS.ext hx).cellW (k := 2) rfl (7) (by rw [hHl]; omega)) (by omega))) fun a hF => ?_
          refine dw_gv hF rfl (wanted_none rfl) rfl rfl (fun w hx => gv_assign rfl (hF.t rfl)) fun a hF => ?_
          refine dw_gv hF rfl (wanted_none rfl) rfl rfl (fun w hx => gv_assign rfl (hF.t rfl)) fun a hF => ?_
          refine dw_gv hF rfl (wanted_none rfl) rfl rfl (fun w hx => gv_assign rfl (hF.t rfl)) fun a hF => ?_
          refine dw_gv hF rfl (wanted_none rfl) rfl rfl (fun w hx => gv_assign rfl (hF.t rfl)) fun a hF => ?_
          refine dw_gv hF rfl (wanted_none rfl) rfl rfl (fun w hx => gv_assign rfl (hF.t rfl)) fun a hF => ?_
          refine dw_gv hF rfl (wanted_none rfl) rfl rfl (fun w hx => gv_assign rfl (hF.t rfl)) fun a hF => ?_
          refine dw_gv hF rfl (wanted_none rfl) rfl rfl (fun w hx => gv_assign rfl (hF.t rfl)) fun a hF => ?_
          refine dw_gv hF rfl (wanted_none rfl) rfl rfl (fun w hx => gv_assign rfl (hF.t rfl)) fun a hF => ?_
          refine dw_nil fun a w hA hx => ?_
          replace hF := hA _ hF
          replace hS := hS.ext hx
          clear hA hx
          refine run_done (by decide) ?_
          refine then_normal (hKq27 _ _ ?_)
          refine wp_seq_k fun Kq28 hKq28 => ?_
          refine wp_seq_k fun Kq29 hKq29 => ?_
          -- region 22 (digest.go:65)
          refine wp_region_lit ?_
          refine wpList_stp (stp_gv hF (wanted_none rfl) rfl rfl (gv_move rfl (ev_const _ _)) fun a hF => ?_)
          refine wpList_nil ?_
          refine then_normal (hKq29 _ _ ?_)
          refine wp_block ?_
          refine wp_loop_n (fun q a w => ∃ i v, i ≤ 64 ∧ q = 64 - i ∧ v = rds (ofL Hh) W i ∧ Fr 221 a [(2, .pointer (some ⟨out, 0, none⟩)), (3, .pointer (some ⟨h, 0, none⟩)), (5, .slice (some ⟨b1, o1, none⟩) (PL.drop (64 * j)).length c1), (6, .pointer (some ⟨wb, 0, none⟩)), (11, vW v.a), (12, vW v.c), (13, vW v.d), (14, vW v.e), (15, vW v.f), (16, vW v.g), (17, vW v.k), (18, vW v.l), (119, vI i)] ∧ St w0 w [⟨true, some wb, blkW 154 (W)⟩, ⟨true, po, blk 5 (PL.map vB ++ pp)⟩, ⟨true, some h, blkW 153 (Hh)⟩, ⟨true, some out, blkB 94 (List.replicate 32 0)⟩]) 64 ⟨0, ofL Hh, by omega, by omega, rfl, hF.sub ⟨rfl, rfl, rfl, rfl, rfl, rfl, rfl, rfl, rfl, rfl, rfl, rfl, rfl, trivial⟩, hS⟩ ?_
          rintro q a w ⟨i, v, hi, hq, hV, hF, hS⟩
          refine wp_seq_k fun Kq30 hKq30 => ?_
          -- region 23 (digest.go:65)
          refine wp_region_lit ?_
          refine wpList_stp (stp_gv hF (wanted_none rfl) rfl rfl (gv_lss rfl (hF.t rfl) (ev_const _ _)) fun a hF => ?_)
          refine wpList_nil ?_
          refine then_normal (hKq30 _ _ ?_)
          refine wp_seq_k fun Kq31 hKq31 => ?_
          refine cond_dec (hF.t rfl) (fun h120 => ?_) (fun h120 => ?_)
          ·
            refine wp_skip ?_
            refine then_normal (hKq31 _ _ ?_)
            refine wp_seq_k fun Kq32 hKq32 => ?_
            refine wp_block ?_
            refine wp_seq_k fun Kq33 hKq33 => ?_
            -- region 24 (digest.go:65)
            refine wp_region_lit ?_
            refine wpList_stp (stp_gv hF (wanted_none rfl) rfl rfl (gv_move rfl (hF.t rfl)) fun a hF => ?_)
            refine wpList_stp (stp_gv hF (wanted_none rfl) rfl rfl (gv_assign rfl (hF.t rfl)) fun a hF => ?_)
            refine wpList_nil ?_
            refine then_normal (hKq33 _ _ ?_)
            refine wp_seq_k fun Kq34 hKq34 => ?_
            -- region 25 (digest.go:66)
            refine Fw.wp_region_draw (by kernel_rfl) fun w hx => ?_
            replace hS := hS.ext hx
            clear hx
            refine run_head0 (n := 30) _ hF (by kernel_rfl) rfl ?_
            refine dw_gv hF rfl (wanted_none rfl) rfl rfl (fun w hx => gv_move rfl (hF.t rfl)) fun a hF => ?_
            refine dw_gv hF rfl (wanted_none rfl) rfl rfl (fun w hx => gv_move rfl (hF.t rfl)) fun a hF => ?_
            refine dw_call hF rfl (wanted_none rfl) rfl rfl Tryd.ok88 rfl (Evs.cons (hF.t rfl) (Evs.cons (ev_const _ _) Evs.nil)) (fun w hx => rot_ok (k := 26) _ _ (by decide) (by decide)) fun a hF => ?_
            refine dw_gv hF rfl (wanted_none rfl) rfl rfl (fun w hx => gv_move rfl (hF.t rfl)) fun a hF => ?_
            refine dw_call hF rfl (wanted_none rfl) rfl rfl Tryd.ok88 rfl (Evs.cons (hF.t rfl) (Evs.cons (ev_const _ _) Evs.nil)) (fun w hx => rot_ok (k := 21) _ _ (by decide) (by decide)) fun a hF => ?_
            refine dw_gv hF rfl (wanted_none rfl) rfl rfl (fun w hx => gv_w_xor rfl (hF.t rfl) (hF.t rfl)) fun a hF => ?_
            refine dw_gv hF rfl (wanted_none rfl) rfl rfl (fun w hx => gv_move rfl (hF.t rfl)) fun a hF => ?_
            refine dw_call hF rfl (wanted_none rfl) rfl rfl Tryd.ok88 rfl (Evs.cons (hF.t rfl) (Evs.cons (ev_const _ _) Evs.nil)) (fun w hx => rot_ok (k := 7) _ _ (by decide) (by decide)) fun a hF => ?_
            refine dw_gv hF rfl (wanted_none rfl) rfl rfl (fun w hx => gv_w_xor rfl (hF.t rfl) (hF.t rfl)) fun a hF => ?_
            refine dw_gv hF rfl (wanted_none rfl) rfl rfl (fun w hx => gv_w_add rfl (hF.t rfl) (hF.t rfl)) fun a hF => ?_
            refine dw_gv hF rfl (wanted_none rfl) rfl rfl (fun w hx => gv_move rfl (hF.t rfl)) fun a hF => ?_
            refine dw_gv hF rfl (wanted_none rfl) rfl rfl (fun w hx => gv_move rfl (hF.t rfl)) fun a hF => ?_
            refine dw_gv hF rfl (wanted_none rfl) rfl rfl (fun w hx => gv_w_and rfl (hF.t rfl) (hF.t rfl)) fun a hF => ?_
            refine dw_gv hF rfl (wanted_none rfl) rfl rfl (fun w hx => gv_move rfl (hF.t rfl)) fun a hF => ?_
            refine dw_gv hF rfl (wanted_none rfl) rfl rfl (fun w hx => gv_w_not rfl (hF.t rfl)) fun a hF => ?_
            refine dw_gv hF rfl (wanted_none rfl) rfl rfl (fun w hx => gv_move rfl (hF.t rfl)) fun a hF => ?_
            refine dw_gv hF rfl (wanted_none rfl) rfl rfl (fun w hx => gv_w_and rfl (hF.t rfl) (hF.t rfl)) fun a hF => ?_
            refine dw_gv hF rfl (wanted_none rfl) rfl rfl (fun w hx => gv_w_xor rfl (hF.t rfl) (hF.t rfl)) fun a hF => ?_
            refine dw_gv hF rfl (wanted_none rfl) rfl rfl (fun w hx => gv_w_add rfl (hF.t rfl) (hF.t rfl)) fun a hF => ?_
            refine dw_gv hF rfl (wanted_none rfl) rfl rfl (fun w hx => gv_move rfl (hF.t rfl)) fun a hF => ?_
            refine dw_gv hF rfl (wanted_none rfl) rfl rfl (fun w hx => gv_indexArr rfl Tryd.underlying150 Tryd.sz76 rfl (hF.t rfl) (by omega)) fun a hF => ?_
            refine dw_gv hF rfl (wanted_none rfl) rfl rfl (fun w hx => gv_load rfl Tryd.underlying76 rfl (hF.t rfl) (cell_ix ((hG.ext ((hS.ext hx).toExt (nw_cons rfl (nw_cons rfl (nw_cons rfl (nw_cons rfl nw_nil)))))).sp i (by omega)) (by omega))) fun a hF => ?_
            refine dw_gv hF rfl (wanted_none rfl) rfl rfl (fun w hx => gv_d_shr (n := 32) rfl (hF.t rfl) rfl (by omega)) fun a hF => ?_
            refine dw_gv hF rfl (wanted_none rfl) rfl rfl (fun w hx => gv_conv_d_w rfl Tryd.underlying76 Tryd.underlying32 (hF.t rfl)) fun a hF => ?_
            refine dw_gv hF rfl (wanted_none rfl) rfl rfl (fun w hx => gv_w_add rfl (hF.t rfl) (hF.t rfl)) fun a hF => ?_
            refine dw_gv hF rfl (wanted_none rfl) rfl rfl (fun w hx => gv_move rfl (hF.t rfl)) fun a hF => ?_
            refine dw_gv hF rfl (wanted_none rfl) rfl rfl (fun w hx => gv_indexArr rfl Tryd.underlying154 Tryd.sz32 (hF.t rfl) (hF.t rfl) (by omega)) fun a hF => ?_
            refine dw_gv hF rfl (wanted_none rfl) rfl rfl (fun w hx => gv_load rfl Tryd.underlying32 rfl (hF.t rfl) (cell_ix ((hS.ext hx).cellW (k := 0) rfl (i) (by rw [hWl]; omega)) (by omega))) fun a hF => ?_
            refine dw_gv hF rfl (wanted_none rfl) rfl rfl (fun w hx => gv_w_add rfl (hF.t rfl) (hF.t rfl)) fun a hF => ?_
            refine dw_gv hF rfl (wanted_none rfl) rfl rfl (fun w hx => gv_assign rfl (hF.t rfl)) fun a hF => ?_
            refine dw_nil fun a w hA hx => ?_
            replace hF := hA _ hF
            replace hS := hS.ext hx
            clear hA hx
            refine run_done (by decide) ?_
            refine then_normal (hKq34 _ _ ?_)
            refine wp_seq_k fun Kq35 hKq35 => ?_
            -- region 26 (digest.go:67)
            refine wp_region_lit ?_
            refine wpList_stp (stp_gv hF (wanted_none rfl) rfl rfl (gv_move rfl (hF.t rfl)) fun a hF => ?_)
            refine wpList_stp (stp_call hF (wanted_none rfl) rfl rfl Tryd.ok88 rfl (Evs.cons (hF.t rfl) (Evs.cons (ev_const _ _) Evs.nil)) (rot_ok (k := 30) _ _ (by decide) (by decide)) fun e w h => ?_)
            obtain ⟨rfl, hx⟩ := h
            refine ⟨_, rfl, fun a hF => ?_⟩
            replace hS := hS.ext hx
            clear hx
            refine wpList_stp (stp_gv hF (wanted_none rfl) rfl rfl (gv_move rfl (hF.t rfl)) fun a hF => ?_)
            refine wpList_stp (stp_call hF (wanted_none rfl) rfl rfl Tryd.ok88 rfl (Evs.cons (hF.t rfl) (Evs.cons (ev_const _ _) Evs.nil)) (rot_ok (k := 19) _ _ (by decide) (by decide)) fun e w h => ?_)
            obtain ⟨rfl, hx⟩ := h
            refine ⟨_, rfl, fun a hF => ?_⟩
            replace hS := hS.ext hx
            clear hx
            refine wpList_stp (stp_gv hF (wanted_none rfl) rfl rfl (gv_w_xor rfl (hF.t rfl) (hF.t rfl)) fun a hF => ?_)
            refine wpList_stp (stp_gv hF (wanted_none rfl) rfl rfl (gv_move rfl (hF.t rfl)) fun a hF => ?_)
            refine wpList_stp (stp_call hF (wanted_none rfl) rfl rfl Tryd.ok88 rfl (Evs.cons (hF.t rfl) (Evs.cons (ev_const _ _) Evs.nil)) (rot_ok (k := 10) _ _ (by decide) (by decide)) fun e w h => ?_)
            obtain ⟨rfl, hx⟩ := h
            refine ⟨_, rfl, fun a hF => ?_⟩
            replace hS := hS.ext hx
            clear hx
            refine wpList_stp (stp_gv hF (wanted_none rfl) rfl rfl (gv_w_xor rfl (hF.t rfl) (hF.t rfl)) fun a hF => ?_)
            refine wpList_stp (stp_gv hF (wanted_none rfl) rfl rfl (gv_move rfl (hF.t rfl)) fun a hF => ?_)
            refine wpList_stp (stp_gv hF (wanted_none rfl) rfl rfl (gv_move rfl (hF.t rfl)) fun a hF => ?_)
            refine wpList_stp (stp_gv hF (wanted_none rfl) rfl rfl (gv_w_and rfl (hF.t rfl) (hF.t rfl)) fun a hF => ?_)
            refine wpList_stp (stp_gv hF (wanted_none rfl) rfl rfl (gv_move rfl (hF.t rfl)) fun a hF => ?_)
            refine wpList_stp (stp_gv hF (wanted_none rfl) rfl rfl (gv_move rfl (hF.t rfl)) fun a hF => ?_)
            refine wpList_stp (stp_gv hF (wanted_none rfl) rfl rfl (gv_w_and rfl (hF.t rfl) (hF.t rfl)) fun a hF => ?_)
            refine wpList_stp (stp_gv hF (wanted_none rfl) rfl rfl (gv_w_xor rfl (hF.t rfl) (hF.t rfl)) fun a hF => ?_)
            refine wpList_stp (stp_gv hF (wanted_none rfl) rfl rfl (gv_move rfl (hF.t rfl)) fun a hF => ?_)
            refine wpList_stp (stp_gv hF (wanted_none rfl) rfl rfl (gv_move rfl (hF.t rfl)) fun a hF => ?_)
            refine wpList_stp (stp_gv hF (wanted_none rfl) rfl rfl (gv_w_and rfl (hF.t rfl) (hF.t rfl)) fun a hF => ?_)
            refine wpList_stp (stp_gv hF (wanted_none rfl) rfl rfl (gv_w_xor rfl (hF.t rfl) (hF.t rfl)) fun a hF => ?_)
            refine wpList_stp (stp_gv hF (wanted_none rfl) rfl rfl (gv_w_add rfl (hF.t rfl) (hF.t rfl)) fun a hF => ?_)
            refine wpList_stp (stp_gv hF (wanted_none rfl) rfl rfl (gv_assign rfl (hF.t rfl)) fun a hF => ?_)
            refine wpList_nil ?_
            refine then_normal (hKq35 _ _ ?_)
            -- region 27 (digest.go:68)
            refine wp_region_lit ?_
            refine wpList_stp (stp_gv hF (wanted_none rfl) rfl rfl (gv_move rfl (hF.t rfl)) fun a hF => ?_)
            refine wpList_stp (stp_gv hF (wanted_none rfl) rfl rfl (gv_move rfl (hF.t rfl)) fun a hF => ?_)
            refine wpList_stp (stp_gv hF (wanted_none rfl) rfl rfl (gv_w_add rfl (hF.t rfl) (hF.t rfl)) fun a hF => ?_)
            refine wpList_stp (stp_gv hF (wanted_none rfl) rfl rfl (gv_move rfl (hF.t rfl)) fun a hF => ?_)
            refine wpList_stp (stp_gv hF (wanted_none rfl) rfl rfl (gv_move rfl (hF.t rfl)) fun a hF => ?_)
            refine wpList_stp (stp_gv hF (wanted_none rfl) rfl rfl (gv_move rfl (hF.t rfl)) fun a hF => ?_)
            refine wpList_stp (stp_gv hF (wanted_none rfl) rfl rfl (gv_move rfl (hF.t rfl)) fun a hF => ?_)
            refine wpList_stp (stp_gv hF (wanted_none rfl) rfl rfl (gv_move rfl (hF.t rfl)) fun a hF => ?_)
            refine wpList_stp (stp_gv hF (wanted_none rfl) rfl rfl (gv_w_add rfl (hF.t rfl) (hF.t rfl)) fun a hF => ?_)
            refine wpList_stp (stp_gv hF (wanted_none rfl) rfl rfl (gv_move rfl (hF.t rfl)) fun a hF => ?_)
            refine wpList_stp (stp_gv hF (wanted_none rfl) rfl rfl (gv_move rfl (hF.t rfl)) fun a hF => ?_)
            refine wpList_stp (stp_gv hF (wanted_none rfl) rfl rfl (gv_move rfl (hF.t rfl)) fun a hF => ?_)
            refine wpList_stp (stp_gv hF (wanted_none rfl) rfl rfl (gv_assign rfl (hF.t rfl)) fun a hF => ?_)
            refine wpList_stp (stp_gv hF (wanted_none rfl) rfl rfl (gv_assign rfl (hF.t rfl)) fun a hF => ?_)
            refine wpList_stp (stp_gv hF (wanted_none rfl) rfl rfl (gv_assign rfl (hF.t rfl)) fun a hF => ?_)
            refine wpList_stp (stp_gv hF (wanted_none rfl) rfl rfl (gv_assign rfl (hF.t rfl)) fun a hF => ?_)
            refine wpList_stp (stp_gv hF (wanted_none rfl) rfl rfl (gv_assign rfl (hF.t rfl)) fun a hF => ?_)
            refine wpList_stp (stp_gv hF (wanted_none rfl) rfl rfl (gv_assign rfl (hF.t rfl)) fun a hF => ?_)
            refine wpList_stp (stp_gv hF (wanted_none rfl) rfl rfl (gv_assign rfl (hF.t rfl)) fun a hF => ?_)
            refine wpList_stp (stp_gv hF (wanted_none rfl) rfl rfl (gv_assign rfl (hF.t rfl)) fun a hF => ?_)
            refine wpList_nil ?_
            refine block_normal ?_
            refine then_normal (hKq32 _ _ ?_)
            -- region 28 (digest.go:65)
            refine wp_region_lit ?_
            refine wpList_stp (stp_gv hF (wanted_none rfl) rfl rfl (gv_nadd (n := 1) rfl (hF.t rfl) rfl (by omega)) fun a hF => ?_)
            refine wpList_stp (stp_gv hF (wanted_none rfl) rfl rfl (gv_move rfl (hF.t rfl)) fun a hF => ?_)
            refine wpList_nil ?_
            refine then_normal ?_
            exact ⟨q - 1, by omega, i + 1, rnd v (hi32 (stepsL.getD i 0)) (W.getD i 0), by omega, by omega, by rw [hV]; rfl, hF.sub ⟨rfl, rfl, rfl, rfl, rfl, rfl, rfl, rfl, rfl, rfl, rfl, rfl, rfl, trivial⟩, hS⟩
          ·
            refine wp_exit ?_
            refine then_exit ?_
            refine then_exit ?_
            refine block_exit ?_
            refine then_normal (hKq28 _ _ ?_)
            refine wp_seq_k fun Kq36 hKq36 => ?_
            -- region 29 (digest.go:70)
            refine wp_region_lit ?_
            refine wpList_stp (stp_gv hF (wanted_none rfl) rfl rfl (gv_move rfl (hF.t rfl)) fun a hF => ?_)
            refine wpList_stp (stp_gv hF (wanted_none rfl) rfl rfl (gv_move rfl (hF.t rfl)) fun a hF => ?_)
            refine wpList_stp (stp_gv hF (wanted_none rfl) rfl rfl (gv_move rfl (hF.t rfl)) fun a hF => ?_)
            refine wpList_stp (stp_gv hF (wanted_none rfl) rfl rfl (gv_move rfl (hF.t rfl)) fun a hF => ?_)
            refine wpList_stp (stp_gv hF (wanted_none rfl) rfl rfl (gv_move rfl (hF.t rfl)) fun a hF => ?_)
            refine wpList_stp (stp_gv hF (wanted_none rfl) rfl rfl (gv_move rfl (hF.t rfl)) fun a hF => ?_)
            refine wpList_stp (stp_gv hF (wanted_none rfl) rfl rfl (gv_move rfl (hF.t rfl)) fun a hF => ?_)
            refine wpList_stp (stp_gv hF (wanted_none rfl) rfl rfl (gv_move rfl (hF.t rfl)) fun a hF => ?_)
            refine wpList_stp (stp_gv hF (wanted_none rfl) rfl rfl (gv_build (v := .agg ((toL v).map vW).toArray) rfl (EvP.map (EvP.cons (hF.t rfl) (EvP.cons (hF.t rfl) (EvP.cons (hF.t rfl) (EvP.cons (hF.t rfl) (EvP.cons (hF.t rfl) (EvP.cons (hF.t rfl) (EvP.cons (hF.t rfl) (EvP.cons (hF.t rfl) EvP.nil))))))))) (run_buildArr (cs := ((toL v).map vW).toArray) Tryd.underlying153 Tryd.sz32 Tryd.zv153 rfl (fill8 v))) fun a hF => ?_)
            refine wpList_stp (stp_gv hF (wanted_none rfl) rfl rfl (gv_move rfl (ev_const _ _)) fun a hF => ?_)
            refine wpList_nil ?_
            refine then_normal (hKq36 _ _ ?_)
            refine wp_block ?_
            obtain rfl : i = 64 := by omega
            refine wp_loop_n (fun q a w => ∃ i, i ≤ 8 ∧ q = 8 - i ∧ Fr 221 a [(2, .pointer (some ⟨out, 0, none⟩)), (3, .pointer (some ⟨h, 0, none⟩)), (5, .slice (some ⟨b1, o1, none⟩) (PL.drop (64 * j)).length c1), (6, .pointer (some ⟨wb, 0, none⟩)), (192, .agg ((toL v).map vW).toArray), (193, vI i)] ∧ St w0 w [⟨true, some wb, blkW 154 (W)⟩, ⟨true, po, blk 5 (PL.map vB ++ pp)⟩, ⟨true, some h, blkW 153 (hadd Hh (toL v) i)⟩, ⟨true, some out, blkB 94 (List.replicate 32 0)⟩]) 8 ⟨0, by omega, by omega, hF.sub ⟨rfl, rfl, rfl, rfl, rfl, rfl, trivial⟩, hS⟩ ?_
            rintro q a w ⟨i, hi, hq, hF, hS⟩
            refine wp_seq_k fun Kq37 hKq37 => ?_
            -- region 30 (digest.go:70)
            refine wp_region_lit ?_
            refine wpList_stp (stp_gv hF (wanted_none rfl) rfl rfl (gv_lss rfl (hF.t rfl) (ev_const _ _)) fun a hF => ?_)
            refine wpList_nil ?_
            refine then_normal (hKq37 _ _ ?_)
            refine wp_seq_k fun Kq38 hKq38 => ?_
            refine cond_dec (hF.t rfl) (fun h194 => ?_) (fun h194 => ?_)
            ·
              refine wp_skip ?_
              refine then_normal (hKq38 _ _ ?_)
              refine wp_seq_k fun Kq39 hKq39 => ?_
              refine wp_block ?_
              refine wp_seq_k fun Kq40 hKq40 => ?_
              -- region 31 (digest.go:70)
              refine wp_region_lit ?_
              refine wpList_stp (stp_gv hF (wanted_none rfl) rfl rfl (gv_move rfl (hF.t rfl)) fun a hF => ?_)
              refine wpList_stp (stp_gv hF (wanted_none rfl) rfl rfl (gv_indexAgg rfl Tryd.underlying153 Tryd.underlying32 rfl Tryd.sz32 (hF.t rfl) (hF.t rfl) (by omega) (arr_at (by rw [toL_len]; omega) 0)) fun a hF => ?_)
              refine wpList_stp (stp_gv hF (wanted_none rfl) rfl rfl (gv_assign rfl (hF.t rfl)) fun a hF => ?_)
              refine wpList_stp (stp_gv hF (wanted_none rfl) rfl rfl (gv_assign rfl (hF.t rfl)) fun a hF => ?_)
              refine wpList_nil ?_
              refine then_normal (hKq40 _ _ ?_)
              -- region 32 (digest.go:71)
              refine wp_region_lit ?_
              refine wpList_stp (stp_gv hF (wanted_none rfl) rfl rfl (gv_move rfl (hF.t rfl)) fun a hF => ?_)
              refine wpList_stp (stp_gv hF (wanted_none rfl) rfl rfl (gv_indexArr rfl Tryd.underlying153 Tryd.sz32 (hF.t rfl) (hF.t rfl) (by omega)) fun a hF => ?_)
              refine wpList_stp (stp_gv hF (wanted_none rfl) rfl rfl (gv_load rfl Tryd.underlying32 rfl (hF.t rfl) (cell_ix (hS.cellW (k := 2) rfl (i) (by rw [hadd_len, hHl]; omega)) (by omega))) fun a hF => ?_)
              refine wpList_stp (stp_gv hF (wanted_none rfl) rfl rfl (gv_move rfl (hF.t rfl)) fun a hF => ?_)
              refine wpList_stp (stp_gv hF (wanted_none rfl) rfl rfl (gv_w_add rfl (hF.t rfl) (hF.t rfl)) fun a hF => ?_)
              refine wpList_stp (stp_gv hF (wanted_none rfl) rfl rfl (gv_indexArr rfl Tryd.underlying153 Tryd.sz32 (hF.t rfl) (hF.t rfl) (by omega)) fun a hF => ?_)
              refine wpList_stp (stp_storeW (i) hF (wanted_none rfl) rfl rfl Tryd.sz32 (hF.t rfl) (by omega) (hF.t rfl) hS (k := 2) rfl (by rw [hadd_len, hHl]; omega) fun w hS => ?_)
              refine wpList_nil ?_
              refine block_normal ?_
              refine then_normal (hKq39 _ _ ?_)
              -- region 33 (digest.go:70)
              refine wp_region_lit ?_
              refine wpList_stp (stp_gv hF (wanted_none rfl) rfl rfl (gv_nadd (n := 1) rfl (hF.t rfl) rfl (by omega)) fun a hF => ?_)
              refine wpList_stp (stp_gv hF (wanted_none rfl) rfl rfl (gv_move rfl (hF.t rfl)) fun a hF => ?_)
              refine wpList_nil ?_
              refine then_normal ?_
              exact ⟨q - 1, by omega, i + 1, by omega, by omega, hF.sub ⟨rfl, rfl, rfl, rfl, rfl, rfl, trivial⟩, hS⟩
            ·
              refine wp_exit ?_
              refine then_exit ?_
              refine then_exit ?_
              refine block_exit ?_
              refine block_normal ?_
              refine then_normal (hKq13 _ _ ?_)
              -- region 9 (digest.go:55)
              refine wp_region_lit ?_
              refine wpList_stp (stp_gv hF (wanted_none rfl) rfl rfl (gv_move rfl (hF.t rfl)) fun a hF => ?_)
              refine wpList_stp (stp_gv hF (wanted_none rfl) rfl rfl (gv_sliceLo (lo := 64) rfl Tryd.underlying22 Tryd.sz5 (hF.t rfl) rfl (by omega)) fun a hF => ?_)
              refine wpList_stp (stp_gv hF (wanted_none rfl) rfl rfl (gv_assign rfl (hF.t rfl)) fun a hF => ?_)
              refine wpList_nil ?_
              refine then_normal ?_
              obtain rfl : i = 8 := by omega
              exact ⟨n - 1, by omega, j + 1, _, by omega, by omega, (by have := hP.cutLo (lo := 64) (by omega); rw [← List.map_drop, List.drop_drop] at this; exact this), hF.sub ⟨rfl, rfl, rfl, trivial⟩, by rw [hsA, blkS, ← hHh, ← hW, ← hV]; exact hS.drop rfl⟩
    ·
      refine wp_exit ?_
      refine then_exit ?_
      refine then_exit ?_
      refine block_exit ?_
      refine then_normal (hKq9 _ _ ?_)
      refine wp_seq_k fun Kq41 hKq41 => ?_
      -- region 34 (digest.go:74)
      refine wp_region_lit ?_
      refine wpList_stp (stp_alloc hF (wanted_none rfl) rfl rfl rfl Tryd.zv94 rfl hS fun o2 a w hF hS => ?_)
      refine wpList_nil ?_
      refine then_normal (hKq41 _ _ ?_)
      refine wp_seq_k fun Kq42 hKq42 => ?_
      refine wp_seq_k fun Kq43 hKq43 => ?_
      -- region 35 (digest.go:75)
      refine wp_region_lit ?_
      refine wpList_stp (stp_gv hF (wanted_none rfl) rfl rfl (gv_move rfl (ev_const _ _)) fun a hF => ?_)
      refine wpList_nil ?_
      refine then_normal (hKq43 _ _ ?_)
      refine wp_block ?_
      obtain rfl : j = M := by omega
      refine wp_loop_n (fun q a w => ∃ i, i ≤ 32 ∧ q = 32 - i ∧ Fr 221 a [(2, .pointer (some ⟨out, 0, none⟩)), (3, .pointer (some ⟨h, 0, none⟩)), (24, .pointer (some ⟨o2, 0, none⟩)), (204, vI i)] ∧ St w0 w [⟨true, some o2, blkB 94 (outS (hsA PL j) i)⟩, ⟨true, po, blk 5 (PL.map vB ++ pp)⟩, ⟨true, some h, blkW 153 (hsA PL j)⟩, ⟨true, some out, blkB 94 (List.replicate 32 0)⟩]) 32 ⟨0, by omega, by omega, hF.sub ⟨rfl, rfl, rfl, rfl, trivial⟩, hS⟩ ?_
      rintro q a w ⟨i, hi, hq, hF, hS⟩
      refine wp_seq_k fun Kq44 hKq44 => ?_
      -- region 36 (digest.go:75)
      refine wp_region_lit ?_
      refine wpList_stp (stp_gv hF (wanted_none rfl) rfl rfl (gv_lss rfl (hF.t rfl) (ev_const _ _)) fun a hF => ?_)
      refine wpList_nil ?_
      refine then_normal (hKq44 _ _ ?_)
      refine wp_seq_k fun Kq45 hKq45 => ?_
      refine cond_dec (hF.t rfl) (fun h205 => ?_) (fun h205 => ?_)
      ·
        refine wp_skip ?_
        refine then_normal (hKq45 _ _ ?_)
        refine wp_seq_k fun Kq46 hKq46 => ?_
        refine wp_block ?_
        refine wp_seq_k fun Kq47 hKq47 => ?_
        -- region 37 (digest.go:75)
        refine wp_region_lit ?_
        refine wpList_stp (stp_gv hF (wanted_none rfl) rfl rfl (gv_move rfl (hF.t rfl)) fun a hF => ?_)
        refine wpList_stp (stp_gv hF (wanted_none rfl) rfl rfl (gv_assign rfl (hF.t rfl)) fun a hF => ?_)
        refine wpList_nil ?_
        refine then_normal (hKq47 _ _ ?_)
        -- region 38 (digest.go:76)
        refine wp_region_lit ?_
        refine wpList_stp (stp_gv hF (wanted_none rfl) rfl rfl (gv_move rfl (hF.t rfl)) fun a hF => ?_)
        refine wpList_stp (stp_gv hF (wanted_none rfl) rfl rfl (gv_move rfl (hF.t rfl)) fun a hF => ?_)
        refine wpList_stp (stp_gv hF (wanted_none rfl) rfl rfl (gv_nquo (n := 4) rfl (hF.t rfl) rfl (by omega) (by omega)) fun a hF => ?_)
        refine wpList_stp (stp_gv hF (wanted_none rfl) rfl rfl (gv_indexArr rfl Tryd.underlying153 Tryd.sz32 (hF.t rfl) (hF.t rfl) (by omega)) fun a hF => ?_)
        refine wpList_stp (stp_gv hF (wanted_none rfl) rfl rfl (gv_load rfl Tryd.underlying32 rfl (hF.t rfl) (cell_ix (hS.cellW (k := 2) rfl (i / 4) (by rw [hHl]; omega)) (by omega))) fun a hF => ?_)
        refine wpList_stp (stp_gv hF (wanted_none rfl) rfl rfl (gv_move rfl (hF.t rfl)) fun a hF => ?_)
        refine wpList_stp (stp_gv hF (wanted_none rfl) rfl rfl (gv_nrem (n := 4) rfl (hF.t rfl) rfl (by omega)) fun a hF => ?_)
        refine wpList_stp (stp_gv hF (wanted_none rfl) rfl rfl (gv_nmul (m := 8) rfl rfl (hF.t rfl) (by omega)) fun a hF => ?_)
        refine wpList_stp (stp_gv hF (wanted_none rfl) rfl rfl (gv_nsub (m := 24) rfl rfl (hF.t rfl) (by omega) (by omega)) fun a hF => ?_)
        refine wpList_stp (stp_gv hF (wanted_none rfl) rfl rfl (gv_w_shr rfl (hF.t rfl) (hF.t rfl) (by omega)) fun a hF => ?_)
        refine wpList_stp (stp_gv hF (wanted_none rfl) rfl rfl (gv_conv_w_b rfl Tryd.underlying32 Tryd.underlying5 (hF.t rfl)) fun a hF => ?_)
        refine wpList_stp (stp_gv hF (wanted_none rfl) rfl rfl (gv_indexArr rfl Tryd.underlying94 Tryd.sz5 (hF.t rfl) (hF.t rfl) (by omega)) fun a hF => ?_)
        refine wpList_stp (stp_storeB (i) hF (wanted_none rfl) rfl rfl Tryd.sz5 (hF.t rfl) (by omega) (hF.t rfl) hS (k := 0) rfl (by rw [outS_len]; omega) fun w hS => ?_)
        refine wpList_nil ?_
        refine block_normal ?_
        refine then_normal (hKq46 _ _ ?_)
        -- region 39 (digest.go:75)
        refine wp_region_lit ?_
        refine wpList_stp (stp_gv hF (wanted_none rfl) rfl rfl (gv_nadd (n := 1) rfl (hF.t rfl) rfl (by omega)) fun a hF => ?_)
        refine wpList_stp (stp_gv hF (wanted_none rfl) rfl rfl (gv_move rfl (hF.t rfl)) fun a hF => ?_)
        refine wpList_nil ?_
        refine then_normal ?_
        exact ⟨q - 1, by omega, i + 1, by omega, by omega, hF.sub ⟨rfl, rfl, rfl, rfl, trivial⟩, hS⟩
      ·
        refine wp_exit ?_
        refine then_exit ?_
        refine then_exit ?_
        refine block_exit ?_
        refine then_normal (hKq42 _ _ ?_)
        refine wp_seq_k fun Kq48 hKq48 => ?_
        obtain rfl : i = 32 := by omega
        -- region 40 (digest.go:78)
        refine wp_region_lit ?_
        refine wpList_stp (stp_gv hF (wanted_none rfl) rfl rfl (gv_loadAll rfl Tryd.underlying94 rfl (Tryd.sz94.trans (congrArg some (by rw [List.length_map, outS_len]))) (hF.t rfl) hS (k := 0) rfl) fun a hF => ?_)
        refine wpList_stp (stp_storeAll hF (wanted_none rfl) rfl rfl (Tryd.sz94.trans (congrArg some (by rw [List.length_map, outS_len]))) (hF.t rfl) (hF.t rfl) (one_B _) hS (k := 3) rfl (by rw [List.length_map, outS_len]; rfl) fun w hS => ?_)
        refine wpList_nil ?_
        refine then_normal (hKq48 _ _ ?_)
        refine wp_ret ?_
        refine retCell (fn := Tryd.f65) hF rfl Tryd.underlying94 rfl (Tryd.sz94.trans (congrArg some (by rw [List.length_map, outS_len]))) rfl hS (k := 3) rfl ⟨by rw [sum256, ← hPL, hM0], hS.toExt (nw_cons rfl (nw_cons rfl (nw_cons rfl (nw_cons rfl nw_nil))))⟩


end Go.Proofs.YtfhalnobaeogkaaDoor

/- What is proved: the contracts of digest.Mac at two parts, and of the code of a packet. -/
import Derived.Test.YtfhalnobaeogkaaDoorProg
import Derived.Test.YtfhalnobaeogkaaDoorFwSep
import Derived.KernelRfl
import Derived.Test.YtfhalnobaeogkaaDoorFwApp
import Derived.Test.YtfhalnobaeogkaaDoorFwWord
import Derived.Test.YtfhalnobaeogkaaDoorFwPkt
import Derived.Test.YtfhalnobaeogkaaDoorFwTok
import Derived.Test.YtfhalnobaeogkaaDoorFwFour
import Derived.Test.YtfhalnobaeogkaaDoorDig
import Derived.Test.YtfhalnobaeogkaaDoorSum
import Derived.Test.YtfhalnobaeogkaaDoorWire
import Derived.Test.YtfhalnobaeogkaaDoorPktW
set_option linter.unusedVariables false
set_option linter.unusedSimpArgs false
namespace Go.Proofs.YtfhalnobaeogkaaDoor
open Go Go.RowKit Go.Fw

theorem Tryd.ty22 : Ty Tryd.prog 22 (Value.slice none 0 0) 1 24 := ⟨by kernel_rfl⟩
theorem Tryd.ok67 : CallOk Tryd.prog 67 := ⟨_, Tryd.func67, by kernel_rfl, by kernel_rfl⟩


def padK (kl : List UInt8) : List UInt8 := kl ++ (List.replicate 64 (0 : UInt8)).drop kl.length
theorem padK_len {kl : List UInt8} (h : kl.length ≤ 64) : (padK kl).length = 64 := by simp [padK]; omega
def xo (c : UInt8) (l : List UInt8) : Nat → List UInt8
  | 0 => l
  | i + 1 => (xo c l i).set i ((xo c l i).getD i 0 ^^^ c)
theorem xo_len (c : UInt8) (l : List UInt8) : ∀ i, (xo c l i).length = l.length
  | 0 => rfl
  | i + 1 => by rw [xo, List.length_set, xo_len c l i]
def catM (l0 l1 : List UInt8) : Nat → List UInt8
  | 0 => []
  | 1 => l0
  | _ => l0 ++ l1
theorem catM_le (l0 l1 : List UInt8) (i : Nat) : (catM l0 l1 i).length ≤ l0.length + l1.length := by
  match i with
  | 0 => simp [catM]
  | 1 => simp [catM]
  | _ + 2 => simp [catM]
def inM (kl l0 l1 : List UInt8) (i : Nat) : List UInt8 := xo 54 (padK kl) 64 ++ catM l0 l1 i
theorem inM_zero (kl l0 l1 : List UInt8) : xo 54 (padK kl) 64 = inM kl l0 l1 0 := by simp [inM, catM]
theorem inM_succ {kl l0 l1 : List UInt8} {i : Nat} (h : i < 2) : inM kl l0 l1 i ++ (if i = 0 then l0 else l1) = inM kl l0 l1 (i + 1) := by
  match i, h with
  | 0, _ => simp [inM, catM]
  | 1, _ => simp [inM, catM]
theorem inM_len {kl l0 l1 : List UInt8} (h : kl.length ≤ 64) (i : Nat) : (inM kl l0 l1 i).length ≤ 64 + (l0.length + l1.length) := by
  have := catM_le l0 l1 i
  rw [inM, List.length_append, xo_len, padK_len h]; omega
/-- The code of two parts under a key. -/
def macF (kl l0 l1 : List UInt8) : List UInt8 := sum256 (xo 92 (padK kl) 64 ++ sum256 (inM kl l0 l1 2))
theorem macF_len (kl l0 l1 : List UInt8) : (macF kl l0 l1).length = 32 := sum256_len _
theorem pair_get {p0 p1 : Value} {i : Nat} (h : i < 2) : [p0, p1][i]? = some (if i = 0 then p0 else p1) := by
  match i, h with
  | 0, _ => rfl
  | 1, _ => rfl


set_option maxHeartbeats 1000000 in
theorem mac_ok {kv pv p0 p1 : Value} {kl l0 l1 : List UInt8} {w0 : World} (hG : Glob w0) (hk : Rd w0 kv (kl.map vB)) (hk0 : 0 < kl.length) (hk1 : kl.length ≤ 64) (hp : Rd w0 pv [p0, p1]) (h0 : Rd w0 p0 (l0.map vB)) (h1 : Rd w0 p1 (l1.map vB)) (hn : l0.length + l1.length ≤ 137438953472) :
    Calls Tryd.prog 67 #[kv, pv] w0 fun e w' => e = .returned (.agg ((macF kl l0 l1).map vB).toArray) ∧ Ext w0 w' := by
  obtain ⟨Ak, ck, hkv, hkc1, hkc2, hkc⟩ := hk.isB
  subst hkv
  obtain ⟨bk, ok, rfl, _⟩ := hkc hk0
  obtain ⟨Ap, cp, hpv, hpc1, hpc2, hpc⟩ := hp.is
  subst hpv
  obtain ⟨bp, okp, rfl, _⟩ := hpc (by simp)
  clear hkc hpc
  refine calls_start 60 Tryd.func67 rfl Tryd.ntmps67 rfl fun a hF => ?_
  have hS := St.refl w0
  refine wp_seq_k fun Kq1 hKq1 => ?_
  -- region 0 (digest.go:111)
  refine wp_region_lit ?_
  refine wpList_stp (stp_alloc hF (wanted_none rfl) rfl rfl rfl Tryd.zv94 rfl hS fun mm a w hF hS => ?_)
  refine wpList_nil ?_
  refine then_normal (hKq1 _ _ ?_)
  refine wp_seq_k fun Kq2 hKq2 => ?_
  refine wp_seq_k fun Kq3 hKq3 => ?_
  -- region 1 (digest.go:112)
  refine wp_region_lit ?_
  refine wpList_stp (stp_gv hF (wanted_none rfl) rfl rfl (gv_move rfl (hF.t rfl)) fun a hF => ?_)
  refine wpList_stp (stp_gv hF (wanted_none rfl) rfl rfl (gv_len rfl Tryd.underlying22 (hF.t rfl)) fun a hF => ?_)
  refine wpList_stp (stp_gv hF (wanted_none rfl) rfl rfl (gv_gtrF rfl (hF.t rfl) (ev_const _ _) (by omega)) fun a hF => ?_)
  refine wpList_nil ?_
  refine then_normal (hKq3 _ _ ?_)
  refine wp_cond_false (hF.t rfl) ?_
  refine wp_skip ?_
  refine then_normal (hKq2 _ _ ?_)
  refine wp_seq_k fun Kq4 hKq4 => ?_
  -- region 4 (digest.go:116)
  refine Fw.wp_region_draw (by kernel_rfl) fun w hx => ?_
  replace hS := hS.ext hx
  clear hx
  refine run_four (fun a w => ∃ inn out, Fr 60 a [(0, .slice (some ⟨bk, ok, none⟩) kl.length ck), (1, .slice (some ⟨bp, okp, none⟩) 2 cp), (4, .pointer (some ⟨mm, 0, none⟩)), (6, .slice (some ⟨inn, 0, none⟩) 64 64), (7, .slice (some ⟨out, 0, none⟩) 64 64)] ∧ St w0 w [⟨true, some out, blkB 5 (List.replicate 64 0)⟩, ⟨true, some inn, blkB 5 (List.replicate 64 0)⟩, ⟨true, some mm, blkB 94 (List.replicate 32 0)⟩]) rfl rfl rfl rfl rfl (by kernel_rfl) (by kernel_rfl) (by kernel_rfl) (by kernel_rfl) (by kernel_rfl) (by kernel_rfl) (by kernel_rfl) (by kernel_rfl) (by kernel_rfl) (by kernel_rfl) (by kernel_rfl) (by kernel_rfl) ?_ ?_ ?_
  · refine stp_make (n := 64) hF (wanted_none rfl) rfl rfl rfl Tryd.underlying22 Tryd.ty5 rfl rfl rfl (by omega) (by omega) hS fun inn a w hF hS => ⟨?_, ?_⟩
    · refine stp_make (n := 64) hF (wanted_none rfl) rfl rfl rfl Tryd.underlying22 Tryd.ty5 rfl rfl rfl (by omega) (by omega) hS fun out a w hF hS => ?_
      refine stp_gv hF (wanted_none rfl) rfl rfl (gv_assign rfl (hF.t rfl)) fun a hF => ?_
      refine stp_gv hF (wanted_none rfl) rfl rfl (gv_assign rfl (hF.t rfl)) fun a hF => ?_
      refine ⟨inn, out, hF.sub ⟨rfl, rfl, rfl, rfl, rfl, trivial⟩, ?_⟩
      simp only [rep_vB] at hS
      exact hS
    · refine stp_gv hF (wanted_none rfl) rfl rfl (gv_assign rfl (hF.t rfl)) fun a hF => ?_
      refine stp_make (n := 64) hF (wanted_none rfl) rfl rfl rfl Tryd.underlying22 Tryd.ty5 rfl rfl rfl (by omega) (by omega) hS fun out a w hF hS => ?_
      refine stp_gv hF (wanted_none rfl) rfl rfl (gv_assign rfl (hF.t rfl)) fun a hF => ?_
      refine ⟨inn, out, hF.sub ⟨rfl, rfl, rfl, rfl, rfl, trivial⟩, ?_⟩
      simp only [rep_vB] at hS
      exact hS
  · refine stp_make (n := 64) hF (wanted_none rfl) rfl rfl rfl Tryd.underlying22 Tryd.ty5 rfl rfl rfl (by omega) (by omega) hS fun out a w hF hS => ?_
    refine stp_make (n := 64) hF (wanted_none rfl) rfl rfl rfl Tryd.underlying22 Tryd.ty5 rfl rfl rfl (by omega) (by omega) hS fun inn a w hF hS => ?_
    refine stp_gv hF (wanted_none rfl) rfl rfl (gv_assign rfl (hF.t rfl)) fun a hF => ?_
    refine stp_gv hF (wanted_none rfl) rfl rfl (gv_assign rfl (hF.t rfl)) fun a hF => ?_
    refine ⟨inn, out, hF.sub ⟨rfl, rfl, rfl, rfl, rfl, trivial⟩, ?_⟩
    simp only [rep_vB] at hS
    exact hS.move (k := 1) rfl
  rintro a w ⟨inn, out, hF, hS⟩
  refine then_normal (hKq4 _ _ ?_)
  refine wp_seq_k fun Kq5 hKq5 => ?_
  -- region 5 (digest.go:117)
  refine wp_region_lit ?_
  refine wpList_stp (stp_gv hF (wanted_none rfl) rfl rfl (gv_move rfl (hF.t rfl)) fun a hF => ?_)
  refine wpList_stp (stp_gv hF (wanted_none rfl) rfl rfl (gv_move rfl (hF.t rfl)) fun a hF => ?_)
  refine wpList_stp (stp_copyB (n := 64) hF (wanted_none rfl) rfl rfl rfl Tryd.underlying22 Tryd.sz5 (hF.t rfl) (hF.t rfl) hS (k := 1) rfl List.length_replicate (hk.ext (hS.toExt (nw_cons rfl (nw_cons rfl (nw_cons rfl nw_nil))))) hk0 hk1 fun a w hF hS => ?_)
  refine wpList_nil ?_
  refine then_normal (hKq5 _ _ ?_)
  refine wp_seq_k fun Kq6 hKq6 => ?_
  -- region 6 (digest.go:118)
  refine wp_region_lit ?_
  refine wpList_stp (stp_gv hF (wanted_none rfl) rfl rfl (gv_move rfl (hF.t rfl)) fun a hF => ?_)
  refine wpList_stp (stp_gv hF (wanted_none rfl) rfl rfl (gv_move rfl (hF.t rfl)) fun a hF => ?_)
  refine wpList_stp (stp_copyB (n := 64) hF (wanted_none rfl) rfl rfl rfl Tryd.underlying22 Tryd.sz5 (hF.t rfl) (hF.t rfl) hS (k := 0) rfl List.length_replicate (hk.ext (hS.toExt (nw_cons rfl (nw_cons rfl (nw_cons rfl nw_nil))))) hk0 hk1 fun a w hF hS => ?_)
  refine wpList_nil ?_
  refine then_normal (hKq6 _ _ ?_)
  refine wp_seq_k fun Kq7 hKq7 => ?_
  refine wp_seq_k fun Kq8 hKq8 => ?_
  -- region 7 (digest.go:119)
  refine wp_region_lit ?_
  refine wpList_stp (stp_gv hF (wanted_none rfl) rfl rfl (gv_move rfl (hF.t rfl)) fun a hF => ?_)
  refine wpList_stp (stp_gv hF (wanted_none rfl) rfl rfl (gv_len rfl Tryd.underlying22 (hF.t rfl)) fun a hF => ?_)
  refine wpList_stp (stp_gv hF (wanted_none rfl) rfl rfl (gv_move rfl (ev_const _ _)) fun a hF => ?_)
  refine wpList_nil ?_
  refine then_normal (hKq8 _ _ ?_)
  refine wp_block ?_
  refine wp_loop_n (fun n a w => ∃ i, i ≤ 64 ∧ n = 64 - i ∧ Fr 60 a [(0, .slice (some ⟨bk, ok, none⟩) kl.length ck), (1, .slice (some ⟨bp, okp, none⟩) 2 cp), (4, .pointer (some ⟨mm, 0, none⟩)), (6, .slice (some ⟨inn, 0, none⟩) 64 64), (7, .slice (some ⟨out, 0, none⟩) 64 64), (27, vI 64), (28, vI i)] ∧ St w0 w [⟨true, some out, blkB 5 (xo 92 (padK kl) i)⟩, ⟨true, some inn, blkB 5 (xo 54 (padK kl) i)⟩, ⟨true, some mm, blkB 94 (List.replicate 32 0)⟩]) 64 ⟨0, by omega, by omega, hF.sub ⟨rfl, rfl, rfl, rfl, rfl, rfl, rfl, trivial⟩, hS⟩ ?_
  rintro n a w ⟨i, hi, hn, hF, hS⟩
  refine wp_seq_k fun Kq9 hKq9 => ?_
  -- region 8 (digest.go:119)
  refine wp_region_lit ?_
  refine wpList_stp (stp_gv hF (wanted_none rfl) rfl rfl (gv_lss rfl (hF.t rfl) (hF.t rfl)) fun a hF => ?_)
  refine wpList_nil ?_
  refine then_normal (hKq9 _ _ ?_)
  refine wp_seq_k fun Kq10 hKq10 => ?_
  refine cond_dec (hF.t rfl) (fun h29 => ?_) (fun h29 => ?_)
  ·
    refine wp_skip ?_
    refine then_normal (hKq10 _ _ ?_)
    refine wp_seq_k fun Kq11 hKq11 => ?_
    refine wp_block ?_
    refine wp_seq_k fun Kq12 hKq12 => ?_
    -- region 9 (digest.go:119)
    refine wp_region_lit ?_
    refine wpList_stp (stp_gv hF (wanted_none rfl) rfl rfl (gv_move rfl (hF.t rfl)) fun a hF => ?_)
    refine wpList_stp (stp_gv hF (wanted_none rfl) rfl rfl (gv_assign rfl (hF.t rfl)) fun a hF => ?_)
    refine wpList_nil ?_
    refine then_normal (hKq12 _ _ ?_)
    refine wp_seq_k fun Kq13 hKq13 => ?_
    -- region 10 (digest.go:120)
    refine wp_region_lit ?_
    refine wpList_stp (stp_gv hF (wanted_none rfl) rfl rfl (gv_move rfl (hF.t rfl)) fun a hF => ?_)
    refine wpList_stp (stp_gv hF (wanted_none rfl) rfl rfl (gv_move rfl (hF.t rfl)) fun a hF => ?_)
    refine wpList_stp (stp_gv hF (wanted_none rfl) rfl rfl (gv_indexSl rfl Tryd.underlying22 Tryd.sz5 (hF.t rfl) (hF.t rfl) (by omega)) fun a hF => ?_)
    refine wpList_stp (stp_gv hF (wanted_none rfl) rfl rfl (gv_load rfl Tryd.underlying5 rfl (hF.t rfl) (cell_ix (hS.cellB (k := 1) rfl (i) (by rw [xo_len, padK_len hk1]; omega)) (by omega))) fun a hF => ?_)
    refine wpList_stp (stp_gv hF (wanted_none rfl) rfl rfl (gv_b_xor (n := 54) rfl (hF.t rfl) rfl) fun a hF => ?_)
    refine wpList_stp (stp_gv hF (wanted_none rfl) rfl rfl (gv_indexSl rfl Tryd.underlying22 Tryd.sz5 (hF.t rfl) (hF.t rfl) (by omega)) fun a hF => ?_)
    refine wpList_stp (stp_storeB (i) hF (wanted_none rfl) rfl rfl Tryd.sz5 (hF.t rfl) (by omega) (hF.t rfl) hS (k := 1) rfl (by rw [xo_len, padK_len hk1]; omega) fun w hS => ?_)
    refine wpList_nil ?_
    refine then_normal (hKq13 _ _ ?_)
    -- region 11 (digest.go:121)
    refine wp_region_lit ?_
    refine wpList_stp (stp_gv hF (wanted_none rfl) rfl rfl (gv_move rfl (hF.t rfl)) fun a hF => ?_)
    refine wpList_stp (stp_gv hF (wanted_none rfl) rfl rfl (gv_move rfl (hF.t rfl)) fun a hF => ?_)
    refine wpList_stp (stp_gv hF (wanted_none rfl) rfl rfl (gv_indexSl rfl Tryd.underlying22 Tryd.sz5 (hF.t rfl) (hF.t rfl) (by omega)) fun a hF => ?_)
    refine wpList_stp (stp_gv hF (wanted_none rfl) rfl rfl (gv_load rfl Tryd.underlying5 rfl (hF.t rfl) (cell_ix (hS.cellB (k := 0) rfl (i) (by rw [xo_len, padK_len hk1]; omega)) (by omega))) fun a hF => ?_)
    refine wpList_stp (stp_gv hF (wanted_none rfl) rfl rfl (gv_b_xor (n := 92) rfl (hF.t rfl) rfl) fun a hF => ?_)
    refine wpList_stp (stp_gv hF (wanted_none rfl) rfl rfl (gv_indexSl rfl Tryd.underlying22 Tryd.sz5 (hF.t rfl) (hF.t rfl) (by omega)) fun a hF => ?_)
    refine wpList_stp (stp_storeB (i) hF (wanted_none rfl) rfl rfl Tryd.sz5 (hF.t rfl) (by omega) (hF.t rfl) hS (k := 0) rfl (by rw [xo_len, padK_len hk1]; omega) fun w hS => ?_)
    refine wpList_nil ?_
    refine block_normal ?_
    refine then_normal (hKq11 _ _ ?_)
    -- region 12 (digest.go:119)
    refine wp_region_lit ?_
    refine wpList_stp (stp_gv hF (wanted_none rfl) rfl rfl (gv_nadd (n := 1) rfl (hF.t rfl) rfl (by omega)) fun a hF => ?_)
    refine wpList_stp (stp_gv hF (wanted_none rfl) rfl rfl (gv_move rfl (hF.t rfl)) fun a hF => ?_)
    refine wpList_nil ?_
    refine then_normal ?_
    exact ⟨n - 1, by omega, i + 1, by omega, by omega, hF.sub ⟨rfl, rfl, rfl, rfl, rfl, rfl, rfl, trivial⟩, hS⟩
  ·
    refine wp_exit ?_
    refine then_exit ?_
    refine then_exit ?_
    refine block_exit ?_
    refine then_normal (hKq7 _ _ ?_)
    refine wp_seq_k fun Kq14 hKq14 => ?_
    refine wp_seq_k fun Kq15 hKq15 => ?_
    -- region 13 (digest.go:123)
    refine wp_region_lit ?_
    refine wpList_stp (stp_gv hF (wanted_none rfl) rfl rfl (gv_move rfl (hF.t rfl)) fun a hF => ?_)
    refine wpList_stp (stp_gv hF (wanted_none rfl) rfl rfl (gv_len rfl Tryd.underlying156 (hF.t rfl)) fun a hF => ?_)
    refine wpList_stp (stp_gv hF (wanted_none rfl) rfl rfl (gv_move rfl (ev_const _ _)) fun a hF => ?_)
    refine wpList_nil ?_
    refine then_normal (hKq15 _ _ ?_)
    refine wp_block ?_
    obtain rfl : i = 64 := by omega
    have hxl : (xo 54 (padK kl) 64).length = 64 := by rw [xo_len, padK_len hk1]
    refine wp_loop_n (fun q a w => ∃ (i inn : Nat) (ip : List Value), i ≤ 2 ∧ q = 2 - i ∧ (inM kl l0 l1 i).length + ip.length ≤ 9223372036854775807 ∧ Fr 60 a [(0, .slice (some ⟨bk, ok, none⟩) kl.length ck), (1, .slice (some ⟨bp, okp, none⟩) 2 cp), (4, .pointer (some ⟨mm, 0, none⟩)), (6, ownV (some inn) (inM kl l0 l1 i).length ((inM kl l0 l1 i).length + ip.length)), (7, .slice (some ⟨out, 0, none⟩) 64 64), (44, .slice (some ⟨bp, okp, none⟩) 2 cp), (45, vI 2), (46, vI i)] ∧ St w0 w [⟨true, some out, blkB 5 (xo 92 (padK kl) 64)⟩, ⟨true, some inn, blk 5 ((inM kl l0 l1 i).map vB ++ ip)⟩, ⟨true, some mm, blkB 94 (List.replicate 32 0)⟩]) 2 ⟨0, inn, [], by omega, by omega, (by rw [← inM_zero, hxl]; simp), (by rw [← inM_zero, hxl]; exact hF.sub ⟨rfl, rfl, rfl, rfl, rfl, rfl, rfl, rfl, trivial⟩), (by rw [← inM_zero, List.append_nil]; exact hS)⟩ ?_
    rintro q a w ⟨i, inn, ip, hi, hn, ic, hF, hS⟩
    refine wp_seq_k fun Kq16 hKq16 => ?_
    -- region 14 (digest.go:123)
    refine wp_region_lit ?_
    refine wpList_stp (stp_gv hF (wanted_none rfl) rfl rfl (gv_lss rfl (hF.t rfl) (hF.t rfl)) fun a hF => ?_)
    refine wpList_nil ?_
    refine then_normal (hKq16 _ _ ?_)
    refine wp_seq_k fun Kq17 hKq17 => ?_
    refine cond_dec (hF.t rfl) (fun h47 => ?_) (fun h47 => ?_)
    ·
      refine wp_skip ?_
      refine then_normal (hKq17 _ _ ?_)
      refine wp_seq_k fun Kq18 hKq18 => ?_
      refine wp_block ?_
      refine wp_seq_k fun Kq19 hKq19 => ?_
      -- region 15 (digest.go:123)
      refine wp_region_lit ?_
      refine wpList_stp (stp_gv hF (wanted_none rfl) rfl rfl (gv_indexSl rfl Tryd.underlying156 Tryd.sz22 (hF.t rfl) (hF.t rfl) (by omega)) fun a hF => ?_)
      refine wpList_stp (stp_gv hF (wanted_none rfl) rfl rfl (gv_load rfl Tryd.underlying22 rfl (hF.t rfl) (cell_ix ((hp.ext (hS.toExt (nw_cons rfl (nw_cons rfl (nw_cons rfl nw_nil))))).rdcell (pair_get (i := i) (by omega))) (by omega))) fun a hF => ?_)
      refine wpList_stp (stp_gv hF (wanted_none rfl) rfl rfl (gv_assign rfl (hF.t rfl)) fun a hF => ?_)
      refine wpList_nil ?_
      refine then_normal (hKq19 _ _ ?_)
      -- region 16 (digest.go:124)
      refine wp_region_lit ?_
      refine wpList_stp (stp_gv hF (wanted_none rfl) rfl rfl (gv_move rfl (hF.t rfl)) fun a hF => ?_)
      refine wpList_stp (stp_gv hF (wanted_none rfl) rfl rfl (gv_move rfl (hF.t rfl)) fun a hF => ?_)
      have hR : Rd w (if i = 0 then p0 else p1) ((if i = 0 then l0 else l1).map vB) := by
        by_cases h0' : i = 0
        · rw [if_pos h0', if_pos h0']; exact h0.ext (hS.toExt (nw_cons rfl (nw_cons rfl (nw_cons rfl nw_nil))))
        · rw [if_neg h0', if_neg h0']; exact h1.ext (hS.toExt (nw_cons rfl (nw_cons rfl (nw_cons rfl nw_nil))))
      have hil := inM_len (l0 := l0) (l1 := l1) hk1 i
      have hll : (if i = 0 then l0 else l1).length ≤ l0.length + l1.length := by split <;> omega
      refine wpList_stp (stp_appB (ob := some inn) (ml := if i = 0 then l0 else l1) (k := 1) hF (wanted_none rfl) rfl rfl rfl Tryd.underlying22 Tryd.ty5 rfl (hF.t rfl) (hF.t rfl) hS rfl (fun h => by cases h) ic hR (by omega) fun inn ip a w hF io ic hS => ?_)
      rw [inM_succ (by omega)] at hF io ic hS
      obtain ⟨inn, rfl⟩ : ∃ b, inn = some b := by
        cases inn with
        | none => have := congrArg List.length (io rfl).1; rw [inM, List.length_append, xo_len, padK_len hk1] at this; simp at this
        | some b => exact ⟨b, rfl⟩
      clear io hR
      refine wpList_stp (stp_gv hF (wanted_none rfl) rfl rfl (gv_assign rfl (hF.t rfl)) fun a hF => ?_)
      refine wpList_nil ?_
      refine block_normal ?_
      refine then_normal (hKq18 _ _ ?_)
      -- region 17 (digest.go:123)
      refine wp_region_lit ?_
      refine wpList_stp (stp_gv hF (wanted_none rfl) rfl rfl (gv_nadd (n := 1) rfl (hF.t rfl) rfl (by omega)) fun a hF => ?_)
      refine wpList_stp (stp_gv hF (wanted_none rfl) rfl rfl (gv_move rfl (hF.t rfl)) fun a hF => ?_)
      refine wpList_nil ?_
      refine then_normal ?_
      exact ⟨q - 1, by omega, i + 1, inn, ip, by omega, by omega, ic, hF.sub ⟨rfl, rfl, rfl, rfl, rfl, rfl, rfl, rfl, trivial⟩, hS⟩
    ·
      refine wp_exit ?_
      refine then_exit ?_
      refine then_exit ?_
      refine block_exit ?_
      refine then_normal (hKq14 _ _ ?_)
      refine wp_seq_k fun Kq20 hKq20 => ?_
      obtain rfl : i = 2 := by omega
      -- region 18 (digest.go:126)
      refine wp_region_lit ?_
      refine wpList_stp (stp_gv hF (wanted_none rfl) rfl rfl (gv_move rfl (hF.t rfl)) fun a hF => ?_)
      refine wpList_stp (stp_call hF (wanted_none rfl) rfl rfl Tryd.ok65 rfl (Evs.cons (hF.t rfl) Evs.nil) (sum_ok (hG.ext (hS.toExt (nw_cons rfl (nw_cons rfl (nw_cons rfl nw_nil))))) (rd_own (l := inM kl l0 l1 2) hS (List.mem_of_getElem? (i := 1) rfl) (nw_cons rfl (nw_cons rfl (nw_cons rfl nw_nil))) (fun h => by cases h) rfl ic) (by have := inM_len (l0 := l0) (l1 := l1) hk1 2; omega)) fun e w h => ?_)
      obtain ⟨rfl, hx⟩ := h
      refine ⟨_, rfl, fun a hF => ?_⟩
      replace hS := hS.ext hx
      clear hx
      refine wpList_stp (stp_alloc hF (wanted_none rfl) rfl rfl rfl Tryd.zv94 rfl hS fun s a w hF hS => ?_)
      refine wpList_stp (stp_storeAll hF (wanted_none rfl) rfl rfl (Tryd.sz94.trans (congrArg some (by rw [List.length_map, sum256_len]))) (hF.t rfl) (hF.t rfl) (one_B _) hS (k := 0) rfl (by rw [List.length_map, sum256_len]; rfl) fun w hS => ?_)
      refine wpList_nil ?_
      refine then_normal (hKq20 _ _ ?_)
      refine wp_seq_k fun Kq21 hKq21 => ?_
      -- region 19 (digest.go:127)
      refine wp_region_lit ?_
      refine wpList_stp (stp_gv hF (wanted_none rfl) rfl rfl (gv_move rfl (hF.t rfl)) fun a hF => ?_)
      refine wpList_stp (stp_gv hF (wanted_none rfl) rfl rfl (gv_sliceArr rfl Tryd.underlying94 Tryd.sz5 (hF.t rfl)) fun a hF => ?_)
      have hs := rd_blkB (n := 32) hS List.mem_cons_self (sum256_len _) (by omega)
      have hxl : (xo 92 (padK kl) 64).length = 64 := by rw [xo_len, padK_len hk1]
      have hS' : St w0 w [⟨true, some s, blkB 94 (sum256 (inM kl l0 l1 2))⟩, ⟨true, some out, blk 5 ((xo 92 (padK kl) 64).map vB ++ [])⟩, ⟨true, some inn, blk 5 ((inM kl l0 l1 2).map vB ++ ip)⟩, ⟨true, some mm, blkB 94 (List.replicate 32 0)⟩] := by rw [List.append_nil]; exact hS
      refine wpList_stp (stp_appB (ob := some out) (l := xo 92 (padK kl) 64) (pad := []) (k := 1) hF (wanted_none rfl) rfl rfl rfl Tryd.underlying22 Tryd.ty5 rfl (by rw [hxl]; exact hF.t rfl) (hF.t rfl) hS' rfl (fun h => by cases h) (by rw [hxl]; simp) hs (by rw [hxl, sum256_len]; omega) fun out op a w hF oo oc hS => ?_)
      clear hS'
      refine wpList_stp (stp_call hF (wanted_none rfl) rfl rfl Tryd.ok65 rfl (Evs.cons (hF.t rfl) Evs.nil) (sum_ok (hG.ext (hS.toExt (nw_cons rfl (nw_cons rfl (nw_cons rfl (nw_cons rfl nw_nil)))))) (rd_own (l := xo 92 (padK kl) 64 ++ sum256 (inM kl l0 l1 2)) hS (List.mem_of_getElem? (i := 1) rfl) (nw_cons rfl (nw_cons rfl (nw_cons rfl (nw_cons rfl nw_nil)))) oo rfl oc) (by rw [List.length_append, sum256_len, xo_len, padK_len hk1]; omega)) fun e w h => ?_)
      obtain ⟨rfl, hx⟩ := h
      refine ⟨_, rfl, fun a hF => ?_⟩
      replace hS := hS.ext hx
      clear hx
      refine wpList_stp (stp_storeAll hF (wanted_none rfl) rfl rfl (Tryd.sz94.trans (congrArg some (by rw [List.length_map, sum256_len]))) (hF.t rfl) (hF.t rfl) (one_B _) hS (k := 3) rfl (by rw [List.length_map, sum256_len]; rfl) fun w hS => ?_)
      refine wpList_nil ?_
      refine then_normal (hKq21 _ _ ?_)
      refine wp_ret ?_
      refine retCell (fn := Tryd.f67) hF rfl Tryd.underlying94 rfl (Tryd.sz94.trans (congrArg some (by rw [List.length_map, sum256_len]))) rfl hS (k := 3) rfl ⟨rfl, hS.toExt (nw_cons rfl (nw_cons rfl (nw_cons rfl (nw_cons rfl nw_nil))))⟩


def codeF (seq : UInt32) (ml pl : List UInt8) : List UInt8 := macF ml (u32B seq) pl
theorem codeF_len (seq : UInt32) (ml pl : List UInt8) : (codeF seq ml pl).length = 32 := macF_len _ _ _
theorem u32_nil {x : UInt32} {w : World} : Calls Tryd.prog 45 #[.slice none 0 0, vW x] w fun e w' => ∃ v, e = .returned v ∧ (v.cells = #[v] ∧ Rd w' v ((u32B x).map vB)) ∧ Ext w w' := by
  refine (u32_ok (o := none) (l := []) (op := []) (x := x) (nw_nil) ((St.refl w).addNil _) (fun _ => ⟨rfl, rfl⟩) (by simp) (by simp)).mono fun e w' h => ?_
  obtain ⟨o, op, rfl, oo, oc, hS⟩ := h
  simp only [List.nil_append] at hS oo oc ⊢
  exact ⟨_, rfl, ⟨by cases o <;> rfl, rd_own hS List.mem_cons_self (nw_cons rfl nw_nil) oo rfl oc⟩, hS.toExt (nw_cons rfl nw_nil)⟩


theorem code_ok {b : Nat} {seq : UInt32} {mv pv : Value} {ml pl : List UInt8} {w0 : World} (hG : Glob w0) (h0 : w0.cell? ⟨b, 0, none⟩ = some (vW seq)) (h2 : w0.cell? ⟨b, 2, none⟩ = some mv) (hm : Rd w0 mv (ml.map vB)) (hl : ml.length = 32) (hp : Rd w0 pv (pl.map vB)) (hn : pl.length ≤ 68719476736) :
    Calls Tryd.prog 47 #[.pointer (some ⟨b, 0, none⟩), pv] w0 fun e w' => ∃ v, e = .returned v ∧ Rd w' v ((codeF seq ml pl).map vB) ∧ Ext w0 w' := by
  obtain ⟨Am, cm, hmv, hm1, hm2, _⟩ := hm.isB
  subst hmv
  obtain ⟨Ap, cp, hpv, hp1, hp2, _⟩ := hp.isB
  subst hpv
  refine calls_start 19 Tryd.func47 rfl Tryd.ntmps47 rfl fun a hF => ?_
  have hS := St.refl w0
  refine wp_seq_k fun Kq1 hKq1 => ?_
  -- region 0 (packet.go:40)
  refine wp_region_lit ?_
  refine wpList_stp (stp_gv hF (wanted_none rfl) rfl rfl (gv_assign rfl (ev_const _ _)) fun a hF => ?_)
  refine wpList_nil ?_
  refine then_normal (hKq1 _ _ ?_)
  refine wp_seq_k fun Kq2 hKq2 => ?_
  -- region 1 (packet.go:41)
  refine Fw.wp_region_draw (by kernel_rfl) fun w hx => ?_
  replace hS := hS.ext hx
  clear hx
  refine run_headS (n := 13) _ [(8, 14, fun v w => v.cells = #[v] ∧ Rd w v ((u32B seq).map vB)), (10, 16, fun v w => ∃ v8, Rd w v [v8, .slice Ap pl.length cp] ∧ Rd w v8 ((u32B seq).map vB)), (11, 17, FlE (.agg ((macF ml (u32B seq) pl).map vB).toArray)), (12, 5, FlB w 94 ((List.replicate 32 (0 : UInt8)).map vB))] hF (by kernel_rfl) rfl (fa_cons rfl (fa_cons rfl (fa_cons rfl (fa_cons rfl fa_nil)))) (fa_cons (fun _ _ _ h hx => ⟨h.1, h.2.ext hx⟩) (fa_cons (fun _ _ _ ⟨v8, h, h2⟩ hx => ⟨v8, h.ext hx, h2.ext hx⟩) (fa_cons (FlE.lasts _) (fa_cons (FlB.lasts _ _ _) fa_nil)))) (fa_cons ⟨Nat.zero_le _, Nat.le_of_ble_eq_true rfl⟩ (fa_cons ⟨Nat.zero_le _, Nat.le_of_ble_eq_true rfl⟩ (fa_cons ⟨Nat.zero_le _, Nat.le_of_ble_eq_true rfl⟩ (fa_cons ⟨Nat.zero_le _, Nat.le_of_ble_eq_true rfl⟩ fa_nil)))) rfl ?_
  refine dw_gv hF rfl (wanted_none rfl) rfl rfl (fun w hx => gv_move rfl (hF.t rfl)) fun a hF => ?_
  refine dw_gv hF rfl (wanted_none rfl) rfl rfl (fun w hx => gv_nilCheck rfl (hF.t rfl)) fun a hF => ?_
  refine dw_gv hF rfl (wanted_none rfl) rfl rfl (fun w hx => gv_field (r := 2) rfl Tryd.underlying35 rfl rfl Tryd.sz22 (by decide) (hF.t rfl)) fun a hF => ?_
  refine dw_gv hF rfl (wanted_none rfl) rfl rfl (fun w hx => gv_load rfl Tryd.underlying22 rfl (hF.t rfl) (cell_ext h2 ((hS.ext hx).toExt nw_nil))) fun a hF => ?_
  refine dw_gv hF rfl (wanted_none rfl) rfl rfl (fun w hx => gv_move rfl (hF.t rfl)) fun a hF => ?_
  refine dw_gv hF rfl (wanted_none rfl) rfl rfl (fun w hx => gv_nilCheck rfl (hF.t rfl)) fun a hF => ?_
  refine dw_gv hF rfl (wanted_none rfl) rfl rfl (fun w hx => gv_field (r := 0) rfl Tryd.underlying35 rfl rfl Tryd.sz32 (by decide) (hF.t rfl)) fun a hF => ?_
  refine dw_gv hF rfl (wanted_none rfl) rfl rfl (fun w hx => gv_load rfl Tryd.underlying32 rfl (hF.t rfl) (cell_ext h0 ((hS.ext hx).toExt nw_nil))) fun a hF => ?_
  refine dw_fl rfl ?_
  refine dw_gv hF rfl (wanted_none rfl) rfl rfl (fun w hx => gv_move rfl (hF.t rfl)) fun a hF => ?_
  refine dw_fl rfl ?_
  refine dw_fl rfl ?_
  refine dw_fl rfl ?_
  refine dw_nil ⟨(fa_cons ?_ (fa_cons ?_ (fa_cons ?_ (fa_cons ?_ fa_nil)))), fun a w hx hA hR => ?_⟩
  · intro a w hx hA hdp
    replace hF := hA _ hF
    replace hS := hS.ext hx
    exact ⟨_, rfl, sx_call (wanted_none rfl) Tryd.ok45 rfl (Evs.cons (ev_const _ _) (Evs.cons (hF.t rfl) Evs.nil)) u32_nil⟩
  · intro a w hx hA hdp
    replace hF := hA _ hF
    replace hS := hS.ext hx
    exact ⟨_, rfl, (have h8 := (hdp _ (List.mem_of_getElem? (i := 0) rfl) (by kernel_rfl)); sx_build2 (wanted_none rfl) rfl Tryd.underlying156 Tryd.ty22 rfl h8.1 rfl (hF.t rfl) (hF.t rfl) ⟨_, (by have := hS.alloc (.cells [slot a 14, .slice Ap pl.length cp].toArray 22); have h3 := this.rdOf (k := 0) (nw := true) (t := 22) (cs := [slot a 14, .slice Ap pl.length cp]) rfl 0 2 2 (by simp) (by omega) (by omega); exact h3), h8.2.ext (Ext.alloc _ _)⟩)⟩
  · intro a w hx hA hdp
    replace hF := hA _ hF
    replace hS := hS.ext hx
    exact ⟨_, rfl, (have ⟨v8, h8, h8'⟩ := (hdp _ (List.mem_of_getElem? (i := 1) rfl) (by kernel_rfl)); sx_call (wanted_none rfl) Tryd.ok67 rfl (Evs.cons (hF.t rfl) (Evs.cons (hF.t rfl) Evs.nil)) ((mac_ok (hG.ext (hS.toExt nw_nil)) (hm.ext (hS.toExt nw_nil)) (by omega) (by omega) h8 h8' (hp.ext (hS.toExt nw_nil)) (by rw [u32B_len]; omega)).mono fun e w' h => ⟨_, h.1, rfl, h.2⟩))⟩
  · intro a w hx hA hdp
    replace hF := hA _ hF
    replace hS := hS.ext hx
    exact ⟨_, rfl, (⟨(wanted_none rfl), .inl ⟨_, _, run_allocOp rfl Tryd.zv94 rfl, Ext.alloc _ _, ⟨_, rfl, hx.size, heap_alloc_new _ _⟩⟩⟩)⟩
  replace hF := hA _ hF
  obtain ⟨c, hv, hR1, hR2⟩ := hR _ (List.mem_of_getElem? (i := 3) rfl)
  have hmv := hR _ (List.mem_of_getElem? (i := 2) rfl)
  replace hS := hS.float hx hR1 hR2
  replace hF : Fr 19 a [(17, .agg ((macF ml (u32B seq) pl).map vB).toArray), (5, .pointer (some ⟨c, 0, none⟩))] := hF.sub ⟨congrArg some hmv, congrArg some hv, trivial⟩
  clear hA hx hR
  refine run_stp (by kernel_rfl) rfl (stp_storeAll hF (wanted_none rfl) rfl rfl (Tryd.sz94.trans (congrArg some (by rw [List.length_map, macF_len]))) (hF.t rfl) (hF.t rfl) (one_B _) hS (k := 0) rfl (by rw [List.length_map, macF_len]; rfl) fun w hS => ?_)
  refine run_done (by decide) ?_
  refine then_normal (hKq2 _ _ ?_)
  refine wp_seq_k fun Kq3 hKq3 => ?_
  -- region 2 (packet.go:42)
  refine wp_region_lit ?_
  refine wpList_stp (stp_gv hF (wanted_none rfl) rfl rfl (gv_sliceArr rfl Tryd.underlying94 Tryd.sz5 (hF.t rfl)) fun a hF => ?_)
  refine wpList_stp (stp_gv hF (wanted_none rfl) rfl rfl (gv_assign rfl (hF.t rfl)) fun a hF => ?_)
  refine wpList_nil ?_
  refine then_normal (hKq3 _ _ ?_)
  refine wp_ret ?_
  refine ret1 (fn := Tryd.f47) (t := 4) hF rfl rfl ?_
  exact ⟨_, rfl, rd_blkB hS List.mem_cons_self (codeF_len _ _ _) (by omega), hS.toExt (nw_cons rfl nw_nil)⟩


end Go.Proofs.YtfhalnobaeogkaaDoor

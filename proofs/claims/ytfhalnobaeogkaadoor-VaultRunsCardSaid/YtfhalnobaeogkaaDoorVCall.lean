/- What is proved: the calls of a law of layer 18 as they lie in memory; light. -/
import Derived.Test.YtfhalnobaeogkaaDoorProg
import Derived.Test.YtfhalnobaeogkaaDoorFwSep
import Derived.KernelRfl
import Derived.Test.YtfhalnobaeogkaaDoorFwSto
import Derived.Test.YtfhalnobaeogkaaDoorFwVlt
import Derived.Test.YtfhalnobaeogkaaDoorFwApp
import Derived.Test.YtfhalnobaeogkaaDoorFwWord
import Derived.Test.YtfhalnobaeogkaaDoorFwPkt
import Derived.Test.YtfhalnobaeogkaaDoorFwTok
import Derived.Test.YtfhalnobaeogkaaDoorDig
import Derived.Test.YtfhalnobaeogkaaDoorSum
import Derived.Test.YtfhalnobaeogkaaDoorWire
import Derived.Test.YtfhalnobaeogkaaDoorPktW
import Derived.Test.YtfhalnobaeogkaaDoorPktR
import Derived.Test.YtfhalnobaeogkaaDoorWireA
import Derived.Test.YtfhalnobaeogkaaDoorDisk
import Derived.Test.YtfhalnobaeogkaaDoorHead
import Derived.Test.YtfhalnobaeogkaaDoorHalf
import Derived.Test.YtfhalnobaeogkaaDoorOpen
import Derived.Test.YtfhalnobaeogkaaDoorSave
import Derived.Test.YtfhalnobaeogkaaDoorVPure
import Derived.Test.YtfhalnobaeogkaaDoorLawVN
import Derived.Test.YtfhalnobaeogkaaDoorLawVF
import Derived.Test.YtfhalnobaeogkaaDoorVCrash
set_option linter.unusedVariables false
set_option linter.unusedSimpArgs false
namespace Go.Proofs.YtfhalnobaeogkaaDoor
open Go Go.RowKit Go.Fw

theorem Tryd.sz87 : (Tryd.prog.info? 87).map (·.size) = some 6 := by kernel_rfl
theorem Tryd.zv87 : (Tryd.prog.info? 87).map (·.zero) = some (some (Value.agg ([Value.int .i64 0] ++ [Value.string .empty] ++ [Value.string .empty] ++ [Value.bool false] ++ [Value.int .i64 0] ++ [Value.int .i64 0]).toArray)) := by kernel_rfl


/-- A call of layer 18. -/
structure CallV where
  kind : Int
  a : List UInt8
  c : List UInt8
  p : Bool
  n : Int
  torn : Int
def CallV.cells (x : CallV) : List Value := [.int .i64 x.kind, sV x.a, sV x.c, .bool x.p, .int .i64 x.n, .int .i64 x.torn]
def CallV.Ok (x : CallV) : Prop := x.a.length ≤ 140737488351232 ∧ x.c.length ≤ 140737488351232 ∧ (-9223372036854775808 ≤ x.n ∧ x.n ≤ 9223372036854775807) ∧ (-9223372036854775808 ≤ x.torn ∧ x.torn ≤ 9223372036854775807)
/-- The calls, as they lie in memory. -/
structure CVd (w : World) (v : Value) (cs : List CallV) : Prop where
  is : ∃ A c, v = .slice A cs.length c ∧ (0 < cs.length → ∃ b o, A = some ⟨b, o, none⟩ ∧ ∀ i x, cs[i]? = some x → ∀ j u, x.cells[j]? = some u → w.cell? ⟨b, o + i * 6 + j, none⟩ = some u)
  el : ∀ x ∈ cs, x.Ok
  len : cs.length ≤ 9223372036854775807
theorem CVd.ext {w w' : World} {v : Value} {cs : List CallV} (h : CVd w v cs) (hx : Ext w w') : CVd w' v cs := by
  obtain ⟨A, c, hv, hc⟩ := h.is
  refine ⟨⟨A, c, hv, fun hp => ?_⟩, h.el, h.len⟩
  obtain ⟨b, o, hA, hc⟩ := hc hp
  exact ⟨b, o, hA, fun i x hx' j u hu => ext_cell hx (hc i x hx' j u hu)⟩
theorem CVd.at {w : World} {A : Option Addr} {n c : Nat} {cs : List CallV} (h : CVd w (.slice A n c) cs) {i : Nat} (hi : i < cs.length) : ∃ b o x, A = some ⟨b, o, none⟩ ∧ cs[i]? = some x ∧ (∀ j u, x.cells[j]? = some u → w.cell? ⟨b, o + i * 6 + j, none⟩ = some u) ∧ x.Ok := by
  obtain ⟨A', c', hv, hc⟩ := h.is
  injection hv with hA _ _
  subst hA
  obtain ⟨b, o, hA, hc⟩ := hc (by omega)
  exact ⟨b, o, cs[i], hA, List.getElem?_eq_getElem hi, hc i _ (List.getElem?_eq_getElem hi), h.el _ (List.getElem_mem hi)⟩
def lightV (cs : List CallV) : Nat → Nat
  | 0 => 0
  | i + 1 => lightV cs i + (match cs[i]? with | some x => 1 + (x.a.length + x.c.length) / 100 | none => 0)
theorem lightV_succ {cs : List CallV} {i : Nat} {x : CallV} (h : cs[i]? = some x) : lightV cs (i + 1) = lightV cs i + (1 + (x.a.length + x.c.length) / 100) := by simp [lightV, h]
theorem lightV_le (cs : List CallV) (i : Nat) : ∀ k, lightV cs i ≤ lightV cs (i + k)
  | 0 => Nat.le_refl _
  | k + 1 => Nat.le_trans (lightV_le cs i k) (by rw [← Nat.add_assoc, lightV]; omega)
theorem lightV_mono (cs : List CallV) {i j : Nat} (h : i ≤ j) : lightV cs i ≤ lightV cs j := by
  have := lightV_le cs i (j - i)
  rwa [show i + (j - i) = j by omega] at this
theorem lightV_small {cs : List CallV} {i : Nat} {x : CallV} (h : lightV cs cs.length ≤ 150) (hx : cs[i]? = some x) : x.a.length + x.c.length < 15000 := by
  have hi := (List.getElem?_eq_some_iff.1 hx).1
  have h1 := lightV_mono cs (show i + 1 ≤ cs.length by omega)
  rw [lightV_succ hx] at h1
  omega
theorem lightV_len (cs : List CallV) : ∀ i, i ≤ cs.length → i ≤ lightV cs i
  | 0, _ => Nat.le_refl _
  | i + 1, h => by
    rw [lightV_succ (List.getElem?_eq_getElem (show i < cs.length by omega))]
    have := lightV_len cs i (by omega)
    omega
theorem cellsV_one (x : CallV) : ∀ u ∈ x.cells, u.oneCell' = true := by
  intro u hu
  simp only [CallV.cells, List.mem_cons, List.mem_nil_iff, or_false] at hu
  rcases hu with rfl | rfl | rfl | rfl | rfl | rfl <;> rfl


theorem lightV_ok {v : Value} {cs : List CallV} {w0 : World} (hv : CVd w0 v cs) :
    Calls Tryd.prog 36 #[v] w0 fun e w' => e = .returned (.bool (decide (lightV cs cs.length ≤ 150))) ∧ Ext w0 w' := by
  obtain ⟨A1, c1, hv1, _⟩ := hv.is
  subst hv1
  have hlen := hv.len
  refine calls_start 26 Tryd.func36 rfl Tryd.ntmps36 rfl fun a hF => ?_
  have hS := St.refl w0
  refine wp_seq_k fun Kq1 hKq1 => ?_
  -- region 0 (law.go:29)
  refine wp_region_lit ?_
  refine wpList_stp (stp_gv hF (wanted_none rfl) rfl rfl (gv_assign rfl (ev_const _ _)) fun a hF => ?_)
  refine wpList_nil ?_
  refine then_normal (hKq1 _ _ ?_)
  refine wp_seq_k fun Kq2 hKq2 => ?_
  -- region 1 (law.go:30)
  refine wp_region_lit ?_
  refine wpList_stp (stp_gv hF (wanted_none rfl) rfl rfl (gv_assign rfl (ev_const _ _)) fun a hF => ?_)
  refine wpList_nil ?_
  refine then_normal (hKq2 _ _ ?_)
  refine wp_seq_k fun Kq3 hKq3 => ?_
  refine wp_seq_k fun Kq4 hKq4 => ?_
  -- region 2 (law.go:31)
  refine wp_region_lit ?_
  refine wpList_stp (stp_gv hF (wanted_none rfl) rfl rfl (gv_move rfl (hF.t rfl)) fun a hF => ?_)
  refine wpList_stp (stp_gv hF (wanted_none rfl) rfl rfl (gv_len rfl Tryd.underlying83 (hF.t rfl)) fun a hF => ?_)
  refine wpList_stp (stp_gv hF (wanted_none rfl) rfl rfl (gv_move rfl (ev_const _ _)) fun a hF => ?_)
  refine wpList_nil ?_
  refine then_normal (hKq4 _ _ ?_)
  refine wp_block ?_
  refine wp_loop_n (fun n a w => ∃ i, i ≤ cs.length ∧ n = cs.length - i ∧ lightV cs i ≤ 150 ∧ Fr 26 a [(3, vI (lightV cs i)), (6, .slice A1 cs.length c1), (7, vI cs.length), (8, vI i)] ∧ St w0 w []) cs.length ⟨0, by omega, by omega, by simp [lightV], hF.sub ⟨rfl, rfl, rfl, rfl, trivial⟩, hS⟩ ?_
  rintro n a w ⟨i, hi, hn, hli, hF, hS⟩
  refine wp_seq_k fun Kq5 hKq5 => ?_
  -- region 3 (law.go:31)
  refine wp_region_lit ?_
  refine wpList_stp (stp_gv hF (wanted_none rfl) rfl rfl (gv_lss rfl (hF.t rfl) (hF.t rfl)) fun a hF => ?_)
  refine wpList_nil ?_
  refine then_normal (hKq5 _ _ ?_)
  refine wp_seq_k fun Kq6 hKq6 => ?_
  refine cond_dec (hF.t rfl) (fun h9 => ?_) (fun h9 => ?_)
  ·
    obtain ⟨b1, o1, ⟨kd, ca, cc, cp, cn, ct⟩, hA1, hx1, hcell, hca, hcc, hcn, hct⟩ := hv.at (i := i) (by omega)
    simp only at hca hcc hcn hct
    subst hA1
    refine wp_skip ?_
    refine then_normal (hKq6 _ _ ?_)
    refine wp_seq_k fun Kq7 hKq7 => ?_
    refine wp_block ?_
    refine wp_seq_k fun Kq8 hKq8 => ?_
    -- region 4 (law.go:31)
    refine wp_region_lit ?_
    refine wpList_stp (stp_gv hF (wanted_none rfl) rfl rfl (gv_indexSl rfl Tryd.underlying83 Tryd.sz87 (hF.t rfl) (hF.t rfl) (by omega)) fun a hF => ?_)
    refine wpList_stp (stp_gv hF (wanted_none rfl) rfl rfl (gv_loadAgg (vs := [.int .i64 kd, sV ca, sV cc, .bool cp, .int .i64 cn, .int .i64 ct]) rfl Tryd.underlying87 rfl (Tryd.sz87.trans (congrArg some (by rfl))) (hF.t rfl) (fun j u hu => ext_cell (hS.toExt nw_nil) (hcell j u hu))) fun a hF => ?_)
    refine wpList_stp (stp_alloc hF (wanted_none rfl) rfl rfl rfl Tryd.zv87 rfl hS fun cx a w hF hS => ?_)
    refine wpList_stp (stp_storeAll hF (wanted_none rfl) rfl rfl (Tryd.sz87.trans (congrArg some (by rfl))) (hF.t rfl) (hF.t rfl) (cellsV_one ⟨kd, ca, cc, cp, cn, ct⟩) hS (k := 0) rfl (by rfl) fun w hS => ?_)
    refine wpList_nil ?_
    refine then_normal (hKq8 _ _ ?_)
    refine wp_seq_k fun Kq9 hKq9 => ?_
    -- region 5 (law.go:32)
    refine wp_region_lit ?_
    refine wpList_stp (stp_gv hF (wanted_none rfl) rfl rfl (gv_move rfl (hF.t rfl)) fun a hF => ?_)
    refine wpList_stp (stp_gv hF (wanted_none rfl) rfl rfl (gv_field (r := 1) rfl Tryd.underlying87 rfl rfl Tryd.sz9 (by decide) (hF.t rfl)) fun a hF => ?_)
    refine wpList_stp (stp_gv hF (wanted_none rfl) rfl rfl (gv_load rfl Tryd.underlying9 rfl (hF.t rfl) (cell_ix (j := 1) (hS.cell (k := 0) rfl (rfl)) (by omega))) fun a hF => ?_)
    refine wpList_stp (stp_gv hF (wanted_none rfl) rfl rfl (gv_lenS rfl Tryd.underlying9 (hF.t rfl)) fun a hF => ?_)
    refine wpList_stp (stp_gv hF (wanted_none rfl) rfl rfl (gv_field (r := 2) rfl Tryd.underlying87 rfl rfl Tryd.sz9 (by decide) (hF.t rfl)) fun a hF => ?_)
    refine wpList_stp (stp_gv hF (wanted_none rfl) rfl rfl (gv_load rfl Tryd.underlying9 rfl (hF.t rfl) (cell_ix (j := 2) (hS.cell (k := 0) rfl (rfl)) (by omega))) fun a hF => ?_)
    refine wpList_stp (stp_gv hF (wanted_none rfl) rfl rfl (gv_lenS rfl Tryd.underlying9 (hF.t rfl)) fun a hF => ?_)
    refine wpList_stp (stp_gv hF (wanted_none rfl) rfl rfl (gv_nadd rfl (hF.t rfl) (hF.t rfl) (by omega)) fun a hF => ?_)
    refine wpList_stp (stp_gv hF (wanted_none rfl) rfl rfl (gv_nquo (n := 100) rfl (hF.t rfl) rfl (by omega) (by omega)) fun a hF => ?_)
    refine wpList_stp (stp_gv hF (wanted_none rfl) rfl rfl (gv_nadd (m := 1) rfl rfl (hF.t rfl) (by omega)) fun a hF => ?_)
    refine wpList_stp (stp_gv hF (wanted_none rfl) rfl rfl (gv_nadd rfl (hF.t rfl) (hF.t rfl) (by omega)) fun a hF => ?_)
    rw [← lightV_succ hx1] at hF
    refine wpList_stp (stp_gv hF (wanted_none rfl) rfl rfl (gv_assign rfl (hF.t rfl)) fun a hF => ?_)
    refine wpList_nil ?_
    refine then_normal (hKq9 _ _ ?_)
    refine wp_seq_k fun Kq10 hKq10 => ?_
    -- region 6 (law.go:32)
    refine wp_region_lit ?_
    refine wpList_stp (stp_gv hF (wanted_none rfl) rfl rfl (gv_move rfl (hF.t rfl)) fun a hF => ?_)
    refine wpList_stp (stp_gv hF (wanted_none rfl) rfl rfl (gv_gtr rfl (hF.t rfl) (ev_const _ _)) fun a hF => ?_)
    refine wpList_nil ?_
    refine then_normal (hKq10 _ _ ?_)
    refine cond_dec (hF.t rfl) (fun h24 => ?_) (fun h24 => ?_)
    ·
      refine wp_seq_k fun Kq11 hKq11 => ?_
      -- region 7 (law.go:33)
      refine wp_region_lit ?_
      refine wpList_stp (stp_gv hF (wanted_none rfl) rfl rfl (gv_assign rfl (ev_const _ _)) fun a hF => ?_)
      refine wpList_nil ?_
      refine then_normal (hKq11 _ _ ?_)
      refine wp_ret ?_
      refine block_ret ?_
      refine then_ret ?_
      refine then_ret ?_
      refine block_ret ?_
      refine then_ret ?_
      refine ret1 (fn := Tryd.f36) (t := 2) hF rfl rfl ?_
      have hm := lightV_mono cs (show i + 1 ≤ cs.length by omega)
      exact ⟨by rw [decide_eq_false (by omega)], hS.toExt (nw_cons rfl nw_nil)⟩
    ·
      refine wp_skip ?_
      refine block_normal ?_
      refine then_normal (hKq7 _ _ ?_)
      -- region 8 (law.go:31)
      refine wp_region_lit ?_
      refine wpList_stp (stp_gv hF (wanted_none rfl) rfl rfl (gv_nadd (n := 1) rfl (hF.t rfl) rfl (by omega)) fun a hF => ?_)
      refine wpList_stp (stp_gv hF (wanted_none rfl) rfl rfl (gv_move rfl (hF.t rfl)) fun a hF => ?_)
      refine wpList_nil ?_
      refine then_normal ?_
      exact ⟨n - 1, by omega, i + 1, by omega, by omega, by omega, hF.sub ⟨rfl, rfl, rfl, rfl, trivial⟩, hS.drop rfl⟩
  ·
    refine wp_exit ?_
    refine then_exit ?_
    refine then_exit ?_
    refine block_exit ?_
    refine then_normal (hKq3 _ _ ?_)
    refine wp_seq_k fun Kq12 hKq12 => ?_
    -- region 9 (law.go:36)
    refine wp_region_lit ?_
    refine wpList_stp (stp_gv hF (wanted_none rfl) rfl rfl (gv_assign rfl (ev_const _ _)) fun a hF => ?_)
    refine wpList_nil ?_
    refine then_normal (hKq12 _ _ ?_)
    refine wp_ret ?_
    refine ret1 (fn := Tryd.f36) (t := 2) hF rfl rfl ?_
    obtain rfl : i = cs.length := by omega
    exact ⟨by rw [decide_eq_true hli], hS.toExt nw_nil⟩


end Go.Proofs.YtfhalnobaeogkaaDoor

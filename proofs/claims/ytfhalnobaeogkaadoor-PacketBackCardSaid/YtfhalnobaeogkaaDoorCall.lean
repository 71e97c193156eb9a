/- What is proved: the calls of a law of layer 7 as they lie in memory; light. -/
import Derived.Test.YtfhalnobaeogkaaDoorProg
import Derived.Test.YtfhalnobaeogkaaDoorFwSep
import Derived.KernelRfl
import Derived.Test.YtfhalnobaeogkaaDoorFwApp
import Derived.Test.YtfhalnobaeogkaaDoorFwWord
import Derived.Test.YtfhalnobaeogkaaDoorFwPkt
import Derived.Test.YtfhalnobaeogkaaDoorFwTok
import Derived.Test.YtfhalnobaeogkaaDoorDig
import Derived.Test.YtfhalnobaeogkaaDoorSum
import Derived.Test.YtfhalnobaeogkaaDoorWire
import Derived.Test.YtfhalnobaeogkaaDoorPktW
import Derived.Test.YtfhalnobaeogkaaDoorPktR
import Derived.Test.YtfhalnobaeogkaaDoorFwFour
set_option linter.unusedVariables false
set_option linter.unusedSimpArgs false
namespace Go.Proofs.YtfhalnobaeogkaaDoor
open Go Go.RowKit Go.Fw

theorem Tryd.sz9 : (Tryd.prog.info? 9).map (·.size) = some 1 := by kernel_rfl
theorem Tryd.sz55 : (Tryd.prog.info? 55).map (·.size) = some 4 := by kernel_rfl
theorem Tryd.zv55 : (Tryd.prog.info? 55).map (·.zero) = some (some (Value.agg ([Value.int .i64 0] ++ [Value.slice none 0 0] ++ [Value.string .empty] ++ [Value.int .i64 0]).toArray)) := by kernel_rfl


structure CallE where
  kind : Int
  dv : Value
  bl : List UInt8
  dr : List UInt8
  n : Int
def CallE.cells (x : CallE) : List Value := [.int .i64 x.kind, x.dv, sV x.dr, .int .i64 x.n]
/-- The calls of a law of layer 7, as they lie in memory. -/
structure CRd (w : World) (v : Value) (cs : List CallE) : Prop where
  is : ∃ A c, v = .slice A cs.length c ∧ (0 < cs.length → ∃ b o, A = some ⟨b, o, none⟩ ∧ ∀ i x, cs[i]? = some x → ∀ j u, x.cells[j]? = some u → w.cell? ⟨b, o + i * 4 + j, none⟩ = some u)
  el : ∀ x ∈ cs, Rd w x.dv (x.bl.map vB) ∧ x.bl.length ≤ 140737488351232 ∧ x.dr.length ≤ 140737488351232 ∧ (-9223372036854775808 ≤ x.n ∧ x.n ≤ 9223372036854775807)
  len : cs.length ≤ 9223372036854775807
theorem CRd.ext {w w' : World} {v : Value} {cs : List CallE} (h : CRd w v cs) (hx : Ext w w') : CRd w' v cs := by
  obtain ⟨A, c, hv, hc⟩ := h.is
  refine ⟨⟨A, c, hv, fun hp => ?_⟩, fun x hx' => ?_, h.len⟩
  · obtain ⟨b, o, hA, hc⟩ := hc hp
    exact ⟨b, o, hA, fun i x hx' j u hu => cell_ext (hc i x hx' j u hu) hx⟩
  · obtain ⟨h1, h2⟩ := h.el x hx'
    exact ⟨h1.ext hx, h2⟩
theorem CRd.at {w : World} {A : Option Addr} {n c : Nat} {cs : List CallE} (h : CRd w (.slice A n c) cs) {i : Nat} (hi : i < cs.length) : ∃ b o x, A = some ⟨b, o, none⟩ ∧ cs[i]? = some x ∧ (∀ j u, x.cells[j]? = some u → w.cell? ⟨b, o + i * 4 + j, none⟩ = some u) ∧ Rd w x.dv (x.bl.map vB) ∧ x.bl.length ≤ 140737488351232 ∧ x.dr.length ≤ 140737488351232 ∧ (-9223372036854775808 ≤ x.n ∧ x.n ≤ 9223372036854775807) := by
  obtain ⟨A', c', hv, hc⟩ := h.is
  injection hv with hA _ _
  subst hA
  obtain ⟨b, o, hA, hc⟩ := hc (by omega)
  exact ⟨b, o, cs[i], hA, List.getElem?_eq_getElem hi, hc i _ (List.getElem?_eq_getElem hi), h.el _ (List.getElem_mem hi)⟩
/-- How much the first calls weigh. -/
def lightN (cs : List CallE) : Nat → Nat
  | 0 => 0
  | i + 1 => lightN cs i + (match cs[i]? with | some x => 1 + (x.bl.length + x.dr.length) / 50 | none => 0)
theorem lightN_succ {cs : List CallE} {i : Nat} {x : CallE} (h : cs[i]? = some x) : lightN cs (i + 1) = lightN cs i + (1 + (x.bl.length + x.dr.length) / 50) := by simp [lightN, h]
theorem lightN_le (cs : List CallE) (i : Nat) : ∀ k, lightN cs i ≤ lightN cs (i + k)
  | 0 => Nat.le_refl _
  | k + 1 => Nat.le_trans (lightN_le cs i k) (by rw [← Nat.add_assoc, lightN]; omega)
theorem lightN_mono (cs : List CallE) {i j : Nat} (h : i ≤ j) : lightN cs i ≤ lightN cs j := by
  have := lightN_le cs i (j - i)
  rwa [show i + (j - i) = j by omega] at this
theorem light_small {cs : List CallE} {i : Nat} {x : CallE} (h : lightN cs cs.length ≤ 100) (hx : cs[i]? = some x) : x.bl.length + x.dr.length < 5000 := by
  have hi := (List.getElem?_eq_some_iff.1 hx).1
  have h1 := lightN_mono cs (show i + 1 ≤ cs.length by omega)
  rw [lightN_succ hx] at h1
  omega
theorem light_len (cs : List CallE) : ∀ i, i ≤ cs.length → i ≤ lightN cs i
  | 0, _ => Nat.le_refl _
  | i + 1, h => by
    rw [lightN_succ (List.getElem?_eq_getElem (show i < cs.length by omega))]
    have := light_len cs i (by omega)
    omega
theorem gv_lenS7 {P : Program} {a : Act} {o : Oper} {w : World} {t : TypeId} {l : List UInt8} {x : Operand} (ho : o.op = .call { callee := .builtin .len, args := #[x], argTypes := #[t] }) (ht : P.underlying t = some .string) (hx : a.eval x = sV l) : Gv P o a w (vI l.length) := by
  have := gv_lenStr (w := w) ho ht hx
  rwa [sV_size] at this
theorem cells_one {x : CallE} {w : World} {l : List UInt8} (h : Rd w x.dv (l.map vB)) : ∀ u ∈ x.cells, u.oneCell' = true := by
  obtain ⟨A, c, hv, _⟩ := h.isB
  intro u hu
  simp only [CallE.cells, List.mem_cons, List.mem_nil_iff, or_false] at hu
  rcases hu with rfl | rfl | rfl | rfl
  · rfl
  · rw [hv]; rfl
  · rfl
  · rfl


theorem light_ok {v : Value} {cs : List CallE} {w0 : World} (hv : CRd w0 v cs) :
    Calls Tryd.prog 22 #[v] w0 fun e w' => e = .returned (.bool (decide (lightN cs cs.length ≤ 100))) ∧ Ext w0 w' := by
  obtain ⟨A1, c1, hv1, _⟩ := hv.is
  subst hv1
  have hlen := hv.len
  refine calls_start 26 Tryd.func22 rfl Tryd.ntmps22 rfl fun a hF => ?_
  have hS := St.refl w0
  refine wp_seq_k fun Kq1 hKq1 => ?_
  -- region 0 (law.go:29)
  refine wp_region_lit ?_
  refine wpList_stp (stp_gv hF (wanted_none rfl) rfl rfl (gv_assign rfl (ev_const _ _)) fun a hF => ?_)
  refine wpList_nil ?_
  refine then_normal (hKq1 _ _ ?_)
  refine wp_seq_k fun Kq2 hKq2 => ?_
  -- region 1 (law.go:30)
  refine wp_region_lit ?_
  refine wpList_stp (stp_gv hF (wanted_none rfl) rfl rfl (gv_assign rfl (ev_const _ _)) fun a hF => ?_)
  refine wpList_nil ?_
  refine then_normal (hKq2 _ _ ?_)
  refine wp_seq_k fun Kq3 hKq3 => ?_
  refine wp_seq_k fun Kq4 hKq4 => ?_
  -- region 2 (law.go:31)
  refine wp_region_lit ?_
  refine wpList_stp (stp_gv hF (wanted_none rfl) rfl rfl (gv_move rfl (hF.t rfl)) fun a hF => ?_)
  refine wpList_stp (stp_gv hF (wanted_none rfl) rfl rfl (gv_len rfl Tryd.underlying44 (hF.t rfl)) fun a hF => ?_)
  refine wpList_stp (stp_gv hF (wanted_none rfl) rfl rfl (gv_move rfl (ev_const _ _)) fun a hF => ?_)
  refine wpList_nil ?_
  refine then_normal (hKq4 _ _ ?_)
  refine wp_block ?_
  refine wp_loop_n (fun n a w => ∃ i, i ≤ cs.length ∧ n = cs.length - i ∧ lightN cs i ≤ 100 ∧ Fr 26 a [(3, vI (lightN cs i)), (6, .slice A1 cs.length c1), (7, vI cs.length), (8, vI i)] ∧ St w0 w []) cs.length ⟨0, by omega, by omega, by simp [lightN], hF.sub ⟨rfl, rfl, rfl, rfl, trivial⟩, hS⟩ ?_
  rintro n a w ⟨i, hi, hn, hli, hF, hS⟩
  refine wp_seq_k fun Kq5 hKq5 => ?_
  -- region 3 (law.go:31)
  refine wp_region_lit ?_
  refine wpList_stp (stp_gv hF (wanted_none rfl) rfl rfl (gv_lss rfl (hF.t rfl) (hF.t rfl)) fun a hF => ?_)
  refine wpList_nil ?_
  refine then_normal (hKq5 _ _ ?_)
  refine wp_seq_k fun Kq6 hKq6 => ?_
  refine cond_dec (hF.t rfl) (fun h9 => ?_) (fun h9 => ?_)
  ·
    obtain ⟨b1, o1, ⟨kd, dv, bl, dr, nn⟩, hA1, hx1, hcell, hdv, hbl, hdr, hnn⟩ := hv.at (i := i) (by omega)
    obtain ⟨Ad, cd, hdv0, hd1, hd2, _⟩ := hdv.isB
    simp only at hdv0 hbl hdr hnn
    subst hdv0
    subst hA1
    refine wp_skip ?_
    refine then_normal (hKq6 _ _ ?_)
    refine wp_seq_k fun Kq7 hKq7 => ?_
    refine wp_block ?_
    refine wp_seq_k fun Kq8 hKq8 => ?_
    -- region 4 (law.go:31)
    refine wp_region_lit ?_
    refine wpList_stp (stp_gv hF (wanted_none rfl) rfl rfl (gv_indexSl rfl Tryd.underlying44 Tryd.sz55 (hF.t rfl) (hF.t rfl) (by omega)) fun a hF => ?_)
    refine wpList_stp (stp_gv hF (wanted_none rfl) rfl rfl (gv_loadAgg (vs := [.int .i64 kd, .slice Ad bl.length cd, sV dr, .int .i64 nn]) rfl Tryd.underlying55 rfl (Tryd.sz55.trans (congrArg some (by rfl))) (hF.t rfl) (fun j u hu => cell_ext (hcell j u hu) (hS.toExt nw_nil))) fun a hF => ?_)
    refine wpList_stp (stp_alloc hF (wanted_none rfl) rfl rfl rfl Tryd.zv55 rfl hS fun cx a w hF hS => ?_)
    refine wpList_stp (stp_storeAll hF (wanted_none rfl) rfl rfl (Tryd.sz55.trans (congrArg some (by rfl))) (hF.t rfl) (hF.t rfl) (cells_one (x := ⟨kd, .slice Ad bl.length cd, bl, dr, nn⟩) hdv) hS (k := 0) rfl (by rfl) fun w hS => ?_)
    refine wpList_nil ?_
    refine then_normal (hKq8 _ _ ?_)
    refine wp_seq_k fun Kq9 hKq9 => ?_
    -- region 5 (law.go:32)
    refine wp_region_lit ?_
    refine wpList_stp (stp_gv hF (wanted_none rfl) rfl rfl (gv_move rfl (hF.t rfl)) fun a hF => ?_)
    refine wpList_stp (stp_gv hF (wanted_none rfl) rfl rfl (gv_field (r := 1) rfl Tryd.underlying55 rfl rfl Tryd.sz22 (by decide) (hF.t rfl)) fun a hF => ?_)
    refine wpList_stp (stp_gv hF (wanted_none rfl) rfl rfl (gv_load rfl Tryd.underlying22 rfl (hF.t rfl) (cell_ix (j := 1) (hS.cell (k := 0) rfl (rfl)) (by omega))) fun a hF => ?_)
    refine wpList_stp (stp_gv hF (wanted_none rfl) rfl rfl (gv_len rfl Tryd.underlying22 (hF.t rfl)) fun a hF => ?_)
    refine wpList_stp (stp_gv hF (wanted_none rfl) rfl rfl (gv_field (r := 2) rfl Tryd.underlying55 rfl rfl Tryd.sz9 (by decide) (hF.t rfl)) fun a hF => ?_)
    refine wpList_stp (stp_gv hF (wanted_none rfl) rfl rfl (gv_load rfl Tryd.underlying9 rfl (hF.t rfl) (cell_ix (j := 2) (hS.cell (k := 0) rfl (rfl)) (by omega))) fun a hF => ?_)
    refine wpList_stp (stp_gv hF (wanted_none rfl) rfl rfl (gv_lenS7 rfl Tryd.underlying9 (hF.t rfl)) fun a hF => ?_)
    refine wpList_stp (stp_gv hF (wanted_none rfl) rfl rfl (gv_nadd rfl (hF.t rfl) (hF.t rfl) (by omega)) fun a hF => ?_)
    refine wpList_stp (stp_gv hF (wanted_none rfl) rfl rfl (gv_nquo (n := 50) rfl (hF.t rfl) rfl (by omega) (by omega)) fun a hF => ?_)
    refine wpList_stp (stp_gv hF (wanted_none rfl) rfl rfl (gv_nadd (m := 1) rfl rfl (hF.t rfl) (by omega)) fun a hF => ?_)
    refine wpList_stp (stp_gv hF (wanted_none rfl) rfl rfl (gv_nadd rfl (hF.t rfl) (hF.t rfl) (by omega)) fun a hF => ?_)
    rw [← lightN_succ hx1] at hF
    refine wpList_stp (stp_gv hF (wanted_none rfl) rfl rfl (gv_assign rfl (hF.t rfl)) fun a hF => ?_)
    refine wpList_nil ?_
    refine then_normal (hKq9 _ _ ?_)
    refine wp_seq_k fun Kq10 hKq10 => ?_
    -- region 6 (law.go:32)
    refine wp_region_lit ?_
    refine wpList_stp (stp_gv hF (wanted_none rfl) rfl rfl (gv_move rfl (hF.t rfl)) fun a hF => ?_)
    refine wpList_stp (stp_gv hF (wanted_none rfl) rfl rfl (gv_gtr rfl (hF.t rfl) (ev_const _ _)) fun a hF => ?_)
    refine wpList_nil ?_
    refine then_normal (hKq10 _ _ ?_)
    refine cond_dec (hF.t rfl) (fun h24 => ?_) (fun h24 => ?_)
    ·
      refine wp_seq_k fun Kq11 hKq11 => ?_
      -- region 7 (law.go:33)
      refine wp_region_lit ?_
      refine wpList_stp (stp_gv hF (wanted_none rfl) rfl rfl (gv_assign rfl (ev_const _ _)) fun a hF => ?_)
      refine wpList_nil ?_
      refine then_normal (hKq11 _ _ ?_)
      refine wp_ret ?_
      refine block_ret ?_
      refine then_ret ?_
      refine then_ret ?_
      refine block_ret ?_
      refine then_ret ?_
      refine ret1 (fn := Tryd.f22) (t := 2) hF rfl rfl ?_
      have hm := lightN_mono cs (show i + 1 ≤ cs.length by omega)
      exact ⟨by rw [decide_eq_false (by omega)], hS.toExt (nw_cons rfl nw_nil)⟩
    ·
      refine wp_skip ?_
      refine block_normal ?_
      refine then_normal (hKq7 _ _ ?_)
      -- region 8 (law.go:31)
      refine wp_region_lit ?_
      refine wpList_stp (stp_gv hF (wanted_none rfl) rfl rfl (gv_nadd (n := 1) rfl (hF.t rfl) rfl (by omega)) fun a hF => ?_)
      refine wpList_stp (stp_gv hF (wanted_none rfl) rfl rfl (gv_move rfl (hF.t rfl)) fun a hF => ?_)
      refine wpList_nil ?_
      refine then_normal ?_
      exact ⟨n - 1, by omega, i + 1, by omega, by omega, by omega, hF.sub ⟨rfl, rfl, rfl, rfl, trivial⟩, hS.drop rfl⟩
  ·
    refine wp_exit ?_
    refine then_exit ?_
    refine then_exit ?_
    refine block_exit ?_
    refine then_normal (hKq3 _ _ ?_)
    refine wp_seq_k fun Kq12 hKq12 => ?_
    -- region 9 (law.go:36)
    refine wp_region_lit ?_
    refine wpList_stp (stp_gv hF (wanted_none rfl) rfl rfl (gv_assign rfl (ev_const _ _)) fun a hF => ?_)
    refine wpList_nil ?_
    refine then_normal (hKq12 _ _ ?_)
    refine wp_ret ?_
    refine ret1 (fn := Tryd.f22) (t := 2) hF rfl rfl ?_
    obtain rfl : i = cs.length := by omega
    exact ⟨by rw [decide_eq_true hli], hS.toExt nw_nil⟩

theorem cnt_ok {b n : Nat} {w0 : World} (h : w0.cell? ⟨b, 3, none⟩ = some (vI n)) :
    Calls Tryd.prog 24 #[.pointer (some ⟨b, 0, none⟩)] w0 fun e w' => e = .returned (vI n) ∧ Ext w0 w' := by
  refine calls_start 7 Tryd.func24 rfl Tryd.ntmps24 rfl fun a hF => ?_
  refine wp_seq_k fun Kq1 hKq1 => ?_
  -- region 0 (packet.go:35)
  refine wp_region_lit ?_
  refine wpList_stp (stp_gv hF (wanted_none rfl) rfl rfl (gv_assign rfl (ev_const _ _)) fun a hF => ?_)
  refine wpList_nil ?_
  refine then_normal (hKq1 _ _ ?_)
  refine wp_seq_k fun Kq2 hKq2 => ?_
  -- region 1 (packet.go:35)
  refine wp_region_lit ?_
  refine wpList_stp (stp_gv hF (wanted_none rfl) rfl rfl (gv_move rfl (hF.t rfl)) fun a hF => ?_)
  refine wpList_stp (stp_gv hF (wanted_none rfl) rfl rfl (gv_nilCheck rfl (hF.t rfl)) fun a hF => ?_)
  refine wpList_stp (stp_gv hF (wanted_none rfl) rfl rfl (gv_field (r := 3) rfl Tryd.underlying35 rfl rfl Tryd.sz3 (by decide) (hF.t rfl)) fun a hF => ?_)
  refine wpList_stp (stp_gv hF (wanted_none rfl) rfl rfl (gv_load rfl Tryd.underlying3 rfl (hF.t rfl) h) fun a hF => ?_)
  refine wpList_stp (stp_gv hF (wanted_none rfl) rfl rfl (gv_assign rfl (hF.t rfl)) fun a hF => ?_)
  refine wpList_nil ?_
  refine then_normal (hKq2 _ _ ?_)
  refine wp_ret ?_
  refine ret1 (fn := Tryd.f24) (t := 2) hF rfl rfl ?_
  exact ⟨rfl, Ext.refl _⟩


end Go.Proofs.YtfhalnobaeogkaaDoor

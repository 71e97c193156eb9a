/- What is proved: VaultOne returns true. -/
import Derived.Test.YtfhalnobaeogkaaDoorProg
import Derived.Test.YtfhalnobaeogkaaDoorFwSep
import Derived.KernelRfl
import Derived.Test.YtfhalnobaeogkaaDoorFwSto
import Derived.Test.YtfhalnobaeogkaaDoorFwVlt
import Derived.Test.YtfhalnobaeogkaaDoorFwApp
import Derived.Test.YtfhalnobaeogkaaDoorFwWord
import Derived.Test.YtfhalnobaeogkaaDoorFwPkt
import Derived.Test.YtfhalnobaeogkaaDoorFwTok
import Derived.Test.YtfhalnobaeogkaaDoorDig
import Derived.Test.YtfhalnobaeogkaaDoorSum
import Derived.Test.YtfhalnobaeogkaaDoorWire
import Derived.Test.YtfhalnobaeogkaaDoorPktW
import Derived.Test.YtfhalnobaeogkaaDoorPktR
import Derived.Test.YtfhalnobaeogkaaDoorWireA
import Derived.Test.YtfhalnobaeogkaaDoorDisk
import Derived.Test.YtfhalnobaeogkaaDoorFwZer
import Derived.Test.YtfhalnobaeogkaaDoorFwSeq
import Derived.Test.YtfhalnobaeogkaaDoorWireA
import Derived.Test.YtfhalnobaeogkaaDoorHead
import Derived.Test.YtfhalnobaeogkaaDoorHalf
import Derived.Test.YtfhalnobaeogkaaDoorOpen
import Derived.Test.YtfhalnobaeogkaaDoorSave
import Derived.Test.YtfhalnobaeogkaaDoorVPure
import Derived.Test.YtfhalnobaeogkaaDoorRefH
import Derived.Test.YtfhalnobaeogkaaDoorRefSum
import Derived.Test.YtfhalnobaeogkaaDoorRefCur
import Derived.Test.YtfhalnobaeogkaaDoorRefBy
import Derived.Test.YtfhalnobaeogkaaDoorRefIm
import Derived.Test.YtfhalnobaeogkaaDoorRefHf
import Derived.Test.YtfhalnobaeogkaaDoorRefNw
import Derived.Test.YtfhalnobaeogkaaDoorRefLaw
import Derived.Test.YtfhalnobaeogkaaDoorLawVN
import Derived.Test.YtfhalnobaeogkaaDoorLawVF
set_option linter.unusedVariables false
set_option linter.unusedSimpArgs false
namespace Go.Proofs.YtfhalnobaeogkaaDoor
open Go Go.RowKit Go.Fw

theorem Tryd.ok33 : CallOk Tryd.prog 33 := ⟨_, Tryd.func33, by kernel_rfl, by kernel_rfl⟩
theorem Tryd.ok35 : CallOk Tryd.prog 35 := ⟨_, Tryd.func35, by kernel_rfl, by kernel_rfl⟩


theorem stTake {w0 w : World} {H : List Ent} (h : St w0 w H) (k : Nat) (hn : ∀ e ∈ H.drop k, e.nw = true) : St w0 w (H.take k) := by
  have hm : ∀ e ∈ H.take k, e ∈ H := fun e he => List.mem_of_mem_take he
  refine ⟨h.os, h.tape, h.output, h.size, fun b hb hne => h.old b hb fun e he hf => ?_, fun e he => h.has e (hm e he), fun e he => h.new e (hm e he), fun i j ei ej b hi hj h1 h2 => ?_⟩
  · rcases List.mem_append.1 ((List.take_append_drop k H).symm ▸ he) with h1 | h1
    · exact hne e h1 hf
    · rw [hn e h1] at hf; cases hf
  · rw [List.getElem?_take] at hi hj
    split at hi
    · split at hj
      · exact h.once i j ei ej b hi hj h1 h2
      · cases hj
    · cases hi
def bits7 (p : Int) : Nat := (BitVec.ofInt 64 p &&& BitVec.ofInt 64 127).toNat
theorem bits7_lt (p : Int) : bits7 p < 128 := by
  rw [bits7, BitVec.toNat_and]
  exact Nat.and_lt_two_pow (n := 7) _ (by decide)
theorem gv_and127 {P : Program} {a : Act} {o : Oper} {w : World} {t t' : TypeId} {x y : Operand} {p : Int} (ho : o.op = .binOp .and t x y t') (hx : a.eval x = .int .i64 p) (hy : a.eval y = .int .i64 127) : Gv P o a w (vI (bits7 p)) := by
  refine gv_int ho hx hy ?_
  have := bits7_lt p
  show Result.ok (Value.int .i64 (IntKind.i64.wrap ((BitVec.ofInt 64 p &&& BitVec.ofInt 64 127).toNat : Int))) w = _
  rw [show (BitVec.ofInt 64 p &&& BitVec.ofInt 64 127).toNat = bits7 p from rfl, wrap_i64_id (by omega) (by omega)]
  rfl
theorem rec3r : Rec3 Tryd.prog 75 9 4 := ⟨by kernel_rfl, by kernel_rfl, by kernel_rfl, Tryd.underlying9, Tryd.underlying4, by kernel_rfl⟩
/-- So many blocks of zeros. -/
def zapF (D : Dk) : Nat → Dk
  | 0 => D
  | q + 1 => (wrF (zapF D q) 20 (q : Int) zero64).2
theorem zap_ok {D : Dk} (hK : DkOk 20 D) (hd : D.dead = false) (hf : D.fuel = -1) : ∀ q, q ≤ 20 → DkOk 20 (zapF D q) ∧ (zapF D q).dead = false ∧ (zapF D q).fuel = -1 ∧ ∀ i, i < 64 * q → (zapF D q).l[i]? = some 0
  | 0, _ => ⟨hK, hd, hf, fun i h => by omega⟩
  | q + 1, h => by
    obtain ⟨h1, h2, h3, h4⟩ := zap_ok hK hd hf q (by omega)
    have he := wrF_free (x := zero64) (show q < 20 by omega) h2 h3
    have hk := wrF_ok (n := 20) (i := (q : Int)) (x := zero64) h1 rfl
    rw [zapF]
    rw [he] at hk ⊢
    refine ⟨hk, h2, h3, fun i hi => ?_⟩
    show (putL (zapF D q).l (64 * q) zero64)[i]? = some 0
    have hl := h1.len
    rw [putL_get (by rw [hl]; show 64 * q + 64 ≤ _; omega)]
    by_cases hc : 64 * q ≤ i ∧ i < 64 * q + zero64.length
    · rw [if_pos hc, zero64, List.getElem?_replicate, if_pos (by have := hc.2; rw [show zero64.length = 64 from rfl] at this; omega)]
    · rw [if_neg hc]
      rw [show zero64.length = 64 from rfl] at hc
      exact h4 i (by omega)
theorem zero_open {D : Dk} (h : ∀ i, i < 64 * 20 → D.l[i]? = some 0) : openF D.l 20 = ⟨0, 1, rc0, false⟩ :=
  open_none (half_zero (zero_blk fun i h1 h2 => h i (by omega))) (half_zero (zero_blk fun i h1 h2 => h i (by omega)))
theorem zero_save {D D' : Dk} {r : Rc} {V' : Vt} (hK : DkOk 20 D) (hz : ∀ i, i < 64 * 20 → D.l[i]? = some 0) (h : saveF ⟨0, 1⟩ D 20 r = (0, V', D')) : DkOk 20 D' ∧ openF D'.l 20 = ⟨1, 0, r, true⟩ := by
  obtain ⟨q1, q2, q3, q4, q5, q6, q7⟩ := saveF_good hK (by decide) h
  have hk : halfF D'.l 20 0 = (r, 0 + 1, true) := q2
  have hzz : (halfF D'.l 20 (1 - 0)).2.2 = false := half_zero (zero_blk fun i h1 h2 => by
    rw [q4 i (by simpa using h1) (by simp at h1 h2 ⊢; omega)]
    exact hz i (by simp at h2; omega))
  exact ⟨q7, open_one (by decide) hk (.inl hzz)⟩
/-- Two records that fit, saved one behind the other. -/
theorem two_saves {r1 r2 : Rc} (h1 : (recB r1.a r1.c r1.p).length ≤ 576) (h2 : (recB r2.a r2.c r2.p).length ≤ 576) (a1 : r1.a.length ≤ 16384) (c1 : r1.c.length ≤ 16384) (a2 : r2.a.length ≤ 16384) (c2 : r2.c.length ≤ 16384) :
    ∃ D1 V2 D2, saveF ⟨0, 1⟩ (newF 20) 20 r1 = (0, ⟨1, 0⟩, D1) ∧ DkOk 20 D1 ∧ saveF ⟨1, 0⟩ D1 20 r2 = (0, V2, D2) ∧ DkOk 20 D2 ∧ D2.dead = false ∧ D2.fuel = -1 := by
  obtain ⟨V1, D1, hs1⟩ := saveF_free (V := ⟨0, 1⟩) (r := r1) (new_ok (n := 20) (by decide) (by decide)) (by decide) h1 a1 c1 rfl rfl
  obtain ⟨hK1, hV1, hd1, hf1, _⟩ := first_save (by decide) (by decide) hs1
  subst hV1
  obtain ⟨V2, D2, hs2⟩ := saveF_free (V := ⟨1, 0⟩) (r := r2) hK1 (by decide) h2 a2 c2 hd1 hf1
  obtain ⟨_, _, _, _, q5, q6, q7⟩ := saveF_good hK1 (by decide) hs2
  exact ⟨D1, V2, D2, hs1, hK1, hs2, q7, q5.trans hd1, q6 hf1⟩


theorem of_ok {al cl : List UInt8} {p : Bool} {w0 : World} :
    Calls Tryd.prog 35 #[recV al cl p] w0 fun e w' => e = .returned (recV al cl p) ∧ Ext w0 w' := by
  refine calls_start 10 Tryd.func35 rfl Tryd.ntmps35 rfl fun a hF => ?_
  have hS := St.refl w0
  refine wp_seq_k fun Kq1 hKq1 => ?_
  -- region 0 (law.go:50)
  refine wp_region_lit ?_
  refine wpList_stp (stp_box (cs := [sV al, sV cl, .bool p]) hF (wanted_none rfl) rfl rfl rfl (hF.t rfl) rfl hS fun rx a w hF hS => ?_)
  refine wpList_stp (stp_alloc hF (wanted_none rfl) rfl rfl rfl Tryd.zv75 rfl hS fun out a w hF hS => ?_)
  refine wpList_nil ?_
  refine then_normal (hKq1 _ _ ?_)
  refine wp_seq_k fun Kq2 hKq2 => ?_
  -- region 1 (law.go:51)
  refine wp_region_lit ?_
  refine wpList_stp (stp_gv hF (wanted_none rfl) rfl rfl (gv_field (r := 0) rfl Tryd.underlying63 rfl rfl Tryd.sz9 (by decide) (hF.t rfl)) fun a hF => ?_)
  refine wpList_stp (stp_gv hF (wanted_none rfl) rfl rfl (gv_load rfl Tryd.underlying9 rfl (hF.t rfl) (cell_ix (j := 0) (hS.cell (k := 1) rfl (rfl)) (by omega))) fun a hF => ?_)
  refine wpList_stp (stp_gv hF (wanted_none rfl) rfl rfl (gv_field (r := 1) rfl Tryd.underlying63 rfl rfl Tryd.sz9 (by decide) (hF.t rfl)) fun a hF => ?_)
  refine wpList_stp (stp_gv hF (wanted_none rfl) rfl rfl (gv_load rfl Tryd.underlying9 rfl (hF.t rfl) (cell_ix (j := 1) (hS.cell (k := 1) rfl (rfl)) (by omega))) fun a hF => ?_)
  refine wpList_stp (stp_gv hF (wanted_none rfl) rfl rfl (gv_field (r := 2) rfl Tryd.underlying63 rfl rfl Tryd.sz4 (by decide) (hF.t rfl)) fun a hF => ?_)
  refine wpList_stp (stp_gv hF (wanted_none rfl) rfl rfl (gv_load rfl Tryd.underlying4 rfl (hF.t rfl) (cell_ix (j := 2) (hS.cell (k := 1) rfl (rfl)) (by omega))) fun a hF => ?_)
  refine wpList_stp (stp_gv hF (wanted_none rfl) rfl rfl (gv_build rfl (EvP.map (EvP.cons (hF.t rfl) (EvP.cons (hF.t rfl) (EvP.cons (hF.t rfl) EvP.nil)))) (build_rrec _ _ _ _)) fun a hF => ?_)
  refine wpList_stp (stp_storeAll hF (wanted_none rfl) rfl rfl (Tryd.sz75.trans (congrArg some (rfl))) (hF.t rfl) (hF.t rfl) ((by intro u hu; simp at hu; rcases hu with rfl | rfl | rfl <;> rfl)) hS (k := 0) rfl (rfl) fun w hS => ?_)
  refine wpList_nil ?_
  refine then_normal (hKq2 _ _ ?_)
  refine wp_ret ?_
  refine retCell (fn := Tryd.f35) (vs := [sV al, sV cl, .bool p]) hF rfl Tryd.underlying75 rfl Tryd.sz75 rfl hS (k := 0) rfl ⟨rfl, hS.toExt (nw_cons rfl (nw_cons rfl nw_nil))⟩

set_option maxHeartbeats 2000000 in
theorem vone_true {la lc ma mc : List UInt8} {lp mp : Bool} {i j k : Int} {w0 : World} (hG : Glob w0) (hla : la.length ≤ 140737488355328) (hlc : lc.length ≤ 140737488355328) (hma : ma.length ≤ 140737488355328) (hmc : mc.length ≤ 140737488355328) :
    Calls Tryd.prog 8 #[recV la lc lp, recV ma mc mp, .agg #[.int .i64 i, .int .i64 j, .int .i64 k]] w0 fun e w' => e = .returned (.bool true) ∧ Ext w0 w' := by
  refine calls_start 164 Tryd.func8 rfl Tryd.ntmps8 rfl fun a hF => ?_
  have hS := St.refl w0
  obtain ⟨B, hB0, hBe, hB1, hB2⟩ := md i 2 (by decide)
  obtain ⟨C, hC0, hCe, hC1, hC2⟩ := md j 8 (by decide)
  refine wp_seq_k fun Kq1 hKq1 => ?_
  -- region 0 (law.go:186)
  refine wp_region_lit ?_
  refine wpList_stp (stp_box (cs := [sV la, sV lc, .bool lp]) hF (wanted_none rfl) rfl rfl rfl (hF.t rfl) rfl hS fun ra a w hF hS => ?_)
  refine wpList_stp (stp_box (cs := [sV ma, sV mc, .bool mp]) hF (wanted_none rfl) rfl rfl rfl (hF.t rfl) rfl hS fun rb a w hF hS => ?_)
  refine wpList_stp (stp_box (cs := [.int .i64 i, .int .i64 j, .int .i64 k]) hF (wanted_none rfl) rfl rfl rfl (hF.t rfl) rfl hS fun bd a w hF hS => ?_)
  refine wpList_stp (stp_gv hF (wanted_none rfl) rfl rfl (gv_assign rfl (ev_const _ _)) fun a hF => ?_)
  refine wpList_nil ?_
  refine then_normal (hKq1 _ _ ?_)
  refine wp_seq_k fun Kq2 hKq2 => ?_
  refine wp_seq_k fun Kq3 hKq3 => ?_
  -- region 1 (law.go:187)
  refine wp_region_lit ?_
  refine wpList_stp (stp_call hF (wanted_none rfl) rfl rfl Tryd.ok27 rfl Evs.nil (fit18_ok (hG.ext (hS.toExt (nw_cons rfl (nw_cons rfl (nw_cons rfl nw_nil)))))) fun e w h => ?_)
  obtain ⟨rfl, hx⟩ := h
  refine ⟨_, rfl, fun a hF => ?_⟩
  replace hS := hS.ext hx
  clear hx
  refine wpList_stp (stp_gv hF (wanted_none rfl) rfl rfl (gv_not rfl (hF.t rfl)) fun a hF => ?_)
  refine wpList_nil ?_
  refine then_normal (hKq3 _ _ ?_)
  refine wp_cond_false (hF.t rfl) ?_
  refine wp_skip ?_
  refine then_normal (hKq2 _ _ ?_)
  refine wp_seq_k fun Kq4 hKq4 => ?_
  refine wp_seq_k fun Kq5 hKq5 => ?_
  -- region 3 (law.go:190)
  refine wp_region_lit ?_
  refine wpList_stp (stp_gv hF (wanted_none rfl) rfl rfl (gv_field (r := 0) rfl Tryd.underlying63 rfl rfl Tryd.sz9 (by decide) (hF.t rfl)) fun a hF => ?_)
  refine wpList_stp (stp_gv hF (wanted_none rfl) rfl rfl (gv_load rfl Tryd.underlying9 rfl (hF.t rfl) (cell_ix (j := 0) (hS.cell (k := 2) rfl (rfl)) (by omega))) fun a hF => ?_)
  refine wpList_stp (stp_gv hF (wanted_none rfl) rfl rfl (gv_lenS rfl Tryd.underlying9 (hF.t rfl)) fun a hF => ?_)
  refine wpList_stp (stp_gv hF (wanted_none rfl) rfl rfl (gv_field (r := 1) rfl Tryd.underlying63 rfl rfl Tryd.sz9 (by decide) (hF.t rfl)) fun a hF => ?_)
  refine wpList_stp (stp_gv hF (wanted_none rfl) rfl rfl (gv_load rfl Tryd.underlying9 rfl (hF.t rfl) (cell_ix (j := 1) (hS.cell (k := 2) rfl (rfl)) (by omega))) fun a hF => ?_)
  refine wpList_stp (stp_gv hF (wanted_none rfl) rfl rfl (gv_lenS rfl Tryd.underlying9 (hF.t rfl)) fun a hF => ?_)
  refine wpList_stp (stp_gv hF (wanted_none rfl) rfl rfl (gv_nadd rfl (hF.t rfl) (hF.t rfl) (by omega)) fun a hF => ?_)
  refine wpList_stp (stp_gv hF (wanted_none rfl) rfl rfl (gv_gtr rfl (hF.t rfl) (ev_const _ _)) fun a hF => ?_)
  refine wpList_stp (stp_gv hF (wanted_none rfl) rfl rfl (gv_move rfl (hF.t rfl)) fun a hF => ?_)
  refine wpList_stp (stp_gvG' hF rfl rfl rfl rfl rfl (fun hg => gv_field (r := 0) rfl Tryd.underlying63 rfl rfl Tryd.sz9 (by decide) (hF.t rfl)) fun a hF => ?_)
  refine wpList_stp (stp_gvG' hF rfl rfl rfl rfl rfl (fun hg => gv_load rfl Tryd.underlying9 rfl ((hF.t rfl).trans (if_neg hg)) (cell_ix (j := 0) (hS.cell (k := 1) rfl (rfl)) (by omega))) fun a hF => ?_)
  refine wpList_stp (stp_gvG' hF rfl rfl rfl rfl rfl (fun hg => gv_lenS rfl Tryd.underlying9 ((hF.t rfl).trans (if_neg hg))) fun a hF => ?_)
  refine wpList_stp (stp_gvG' hF rfl rfl rfl rfl rfl (fun hg => gv_field (r := 1) rfl Tryd.underlying63 rfl rfl Tryd.sz9 (by decide) (hF.t rfl)) fun a hF => ?_)
  refine wpList_stp (stp_gvG' hF rfl rfl rfl rfl rfl (fun hg => gv_load rfl Tryd.underlying9 rfl ((hF.t rfl).trans (if_neg hg)) (cell_ix (j := 1) (hS.cell (k := 1) rfl (rfl)) (by omega))) fun a hF => ?_)
  refine wpList_stp (stp_gvG' hF rfl rfl rfl rfl rfl (fun hg => gv_lenS rfl Tryd.underlying9 ((hF.t rfl).trans (if_neg hg))) fun a hF => ?_)
  refine wpList_stp (stp_gvG' hF rfl rfl rfl rfl rfl (fun hg => gv_nadd rfl ((hF.t rfl).trans (if_neg hg)) ((hF.t rfl).trans (if_neg hg)) (by omega)) fun a hF => ?_)
  refine wpList_stp (stp_gvG' hF rfl rfl rfl rfl rfl (fun hg => gv_gtr rfl ((hF.t rfl).trans (if_neg hg)) (ev_const _ _)) fun a hF => ?_)
  refine wpList_stp (stp_gv hF (wanted_none rfl) rfl rfl (gv_pickOr rfl (hF.t rfl) (ev_const _ _) (hF.t rfl)) fun a hF => ?_)
  refine wpList_nil ?_
  refine then_normal (hKq5 _ _ ?_)
  refine cond_dec (hF.t rfl) (fun h46 => ?_) (fun h46 => ?_)
  ·
    refine wp_seq_k fun Kq6 hKq6 => ?_
    -- region 4 (law.go:191)
    refine wp_region_lit ?_
    refine wpList_stp (stp_gv hF (wanted_none rfl) rfl rfl (gv_assign rfl (ev_const _ _)) fun a hF => ?_)
    refine wpList_nil ?_
    refine then_normal (hKq6 _ _ ?_)
    refine wp_ret ?_
    refine then_ret ?_
    refine ret1 (fn := Tryd.f8) (t := 6) hF rfl rfl ?_
    exact ⟨rfl, hS.toExt (nw_cons rfl (nw_cons rfl (nw_cons rfl nw_nil)))⟩
  ·
    refine wp_skip ?_
    refine then_normal (hKq4 _ _ ?_)
    refine wp_seq_k fun Kq7 hKq7 => ?_
    have hr1 := recB_len la lc lp
    have hr2 := recB_len ma mc mp
    obtain ⟨D1, V2, D2, hs1, hK1, hs2, hK2, hd2, hf2⟩ := two_saves (r1 := ⟨la, lc, lp⟩) (r2 := ⟨ma, mc, mp⟩) (by show (recB la lc lp).length ≤ _; omega) (by show (recB ma mc mp).length ≤ _; omega) (by show la.length ≤ _; omega) (by show lc.length ≤ _; omega) (by show ma.length ≤ _; omega) (by show mc.length ≤ _; omega)
    -- region 5 (law.go:193)
    refine wp_region_lit ?_
    refine wpList_stp (stp_call hF (wanted_none rfl) rfl rfl Tryd.ok28 rfl (Evs.cons rfl Evs.nil) (new_call (n := 20) (by omega) (by omega)) fun e w h => ?_)
    obtain ⟨d, p, rfl, hN⟩ := h
    refine ⟨_, rfl, fun a hF => ?_⟩
    replace hS := hS.join hN (nw_cons rfl (nw_cons rfl nw_nil))
    simp only [List.cons_append, List.nil_append] at hS
    clear hN
    refine wpList_stp (stp_gv hF (wanted_none rfl) rfl rfl (gv_move rfl (hF.t rfl)) fun a hF => ?_)
    refine wpList_stp (stp_gv hF (wanted_none rfl) rfl rfl (gv_extract rfl (hF.t rfl) rfl) fun a hF => ?_)
    refine wpList_stp (stp_gv hF (wanted_none rfl) rfl rfl (gv_extract rfl (hF.t rfl) rfl) fun a hF => ?_)
    refine wpList_stp (stp_gv hF (wanted_none rfl) rfl rfl (gv_assign rfl (hF.t rfl)) fun a hF => ?_)
    refine wpList_stp (stp_gv hF (wanted_none rfl) rfl rfl (gv_assign rfl (hF.t rfl)) fun a hF => ?_)
    refine wpList_nil ?_
    refine then_normal (hKq7 _ _ ?_)
    refine wp_seq_k fun Kq8 hKq8 => ?_
    -- region 6 (law.go:194)
    refine wp_region_lit ?_
    refine wpList_stp (stp_gv hF (wanted_none rfl) rfl rfl (gv_move rfl (hF.t rfl)) fun a hF => ?_)
    refine wpList_stp (stp_call hF (wanted_none rfl) rfl rfl Tryd.ok29 rfl (Evs.cons (hF.t rfl) Evs.nil) (open_ok (hG.ext (hS.toExt (nw_cons rfl (nw_cons rfl (nw_cons rfl (nw_cons rfl (nw_cons rfl nw_nil))))))) (dskW_of (k := 0) (k' := 1) hS rfl rfl) (new_ok (by decide) (by decide))) fun e w h => ?_)
    obtain ⟨v, rfl, hN⟩ := h
    refine ⟨_, rfl, fun a hF => ?_⟩
    rw [new_open (by decide)] at hF hN
    replace hS := hS.join hN (nw_cons rfl nw_nil)
    simp only [List.cons_append, List.nil_append] at hS
    clear hN
    refine wpList_stp (stp_gv hF (wanted_none rfl) rfl rfl (gv_move rfl (hF.t rfl)) fun a hF => ?_)
    refine wpList_stp (stp_gv hF (wanted_none rfl) rfl rfl (gv_extract rfl (hF.t rfl) rfl) fun a hF => ?_)
    refine wpList_stp (stp_gv hF (wanted_none rfl) rfl rfl (gv_extract rfl (hF.t rfl) rfl) fun a hF => ?_)
    refine wpList_stp (stp_gv hF (wanted_none rfl) rfl rfl (gv_extract rfl (hF.t rfl) rfl) fun a hF => ?_)
    refine wpList_stp (stp_alloc hF (wanted_none rfl) rfl rfl rfl Tryd.zv63 rfl hS fun r10 a w hF hS => ?_)
    refine wpList_stp (stp_gv hF (wanted_none rfl) rfl rfl (gv_assign rfl (hF.t rfl)) fun a hF => ?_)
    refine wpList_stp (stp_storeAll hF (wanted_none rfl) rfl rfl (Tryd.sz63.trans (congrArg some (rfl))) (hF.t rfl) (hF.t rfl) ((by intro u hu; simp at hu; rcases hu with rfl | rfl | rfl <;> rfl)) hS (k := 0) rfl (rfl) fun w hS => ?_)
    refine wpList_stp (stp_gv hF (wanted_none rfl) rfl rfl (gv_assign rfl (hF.t rfl)) fun a hF => ?_)
    refine wpList_nil ?_
    refine then_normal (hKq8 _ _ ?_)
    refine wp_seq_k fun Kq9 hKq9 => ?_
    refine wp_seq_k fun Kq10 hKq10 => ?_
    -- region 7 (law.go:195)
    refine wp_region_lit ?_
    refine wpList_stp (stp_gv hF (wanted_none rfl) rfl rfl (gv_move rfl (hF.t rfl)) fun a hF => ?_)
    refine wpList_stp (stp_gv hF (wanted_none rfl) rfl rfl (gv_loadAll rfl Tryd.underlying63 rfl (Tryd.sz63.trans (congrArg some (rfl))) (hF.t rfl) hS (k := 6) rfl) fun a hF => ?_)
    replace hS := hS.move (k := 3) rfl
    replace hS := hS.move (k := 3) rfl
    replace hS := hS.move (k := 3) rfl
    simp only [List.eraseIdx_cons_succ, List.eraseIdx_cons_zero] at hS
    refine wpList_stp (stp_call hF (wanted_none rfl) rfl rfl Tryd.ok30 rfl (Evs.cons (hF.t rfl) (Evs.cons (hF.t rfl) Evs.nil)) (save_ok (V := ⟨0, 1⟩) (al := la) (cl := lc) (pp := lp) hG (nw_cons rfl (nw_cons rfl (nw_cons rfl (nw_cons rfl nw_nil)))) hS (new_ok (by decide) (by decide)) (by decide) (by omega) (by omega)) fun e w h => ?_)
    obtain ⟨rfl, hS⟩ := h
    refine ⟨_, rfl, fun a hF => ?_⟩
    rw [hs1] at hF hS
    refine wpList_stp (stp_gv hF (wanted_none rfl) rfl rfl (gv_neqF rfl (hF.t rfl) (ev_const _ _) (fun h => h rfl)) fun a hF => ?_)
    refine wpList_stp (stp_gv hF (wanted_none rfl) rfl rfl (gv_move rfl (hF.t rfl)) fun a hF => ?_)
    refine wpList_stp (stp_gv hF (wanted_of hF rfl rfl (rfl)) rfl rfl (gv_move rfl (hF.t rfl)) fun a hF => ?_)
    refine wpList_stp (stp_gv hF (wanted_of hF rfl rfl (rfl)) rfl rfl (gv_loadAll rfl Tryd.underlying63 rfl (Tryd.sz63.trans (congrArg some (rfl))) (hF.t rfl) hS (k := 5) rfl) fun a hF => ?_)
    refine wpList_stp (stp_call hF (wanted_of hF rfl rfl rfl) rfl rfl Tryd.ok30 rfl (Evs.cons (hF.t rfl) (Evs.cons (hF.t rfl) Evs.nil)) (save_ok (V := ⟨1, 0⟩) (al := ma) (cl := mc) (pp := mp) hG (nw_cons rfl (nw_cons rfl (nw_cons rfl (nw_cons rfl nw_nil)))) hS hK1 (by decide) (by omega) (by omega)) fun e w h => ?_)
    obtain ⟨rfl, hS⟩ := h
    refine ⟨_, rfl, fun a hF => ?_⟩
    rw [hs2] at hF hS
    refine wpList_stp (stp_gv hF (wanted_of hF rfl rfl (rfl)) rfl rfl (gv_neqF rfl (hF.t rfl) (ev_const _ _) (fun h => h rfl)) fun a hF => ?_)
    refine wpList_stp (stp_gv hF (wanted_none rfl) rfl rfl (gv_pickF rfl (hF.t rfl) (hF.t rfl)) fun a hF => ?_)
    refine wpList_nil ?_
    refine then_normal (hKq10 _ _ ?_)
    refine wp_cond_false (hF.t rfl) ?_
    refine wp_skip ?_
    refine then_normal (hKq9 _ _ ?_)
    refine wp_seq_k fun Kq11 hKq11 => ?_
    -- region 9 (law.go:199)
    refine wp_region_lit ?_
    refine wpList_stp (stp_gv hF (wanted_none rfl) rfl rfl (gv_move rfl (hF.t rfl)) fun a hF => ?_)
    refine wpList_stp (stp_gv hF (wanted_none rfl) rfl rfl (gv_indexArr (q := 0) rfl Tryd.underlying64 Tryd.sz3 (hF.t rfl) rfl (by omega)) fun a hF => ?_)
    refine wpList_stp (stp_gv hF (wanted_none rfl) rfl rfl (gv_load rfl Tryd.underlying3 rfl (hF.t rfl) (cell_ix (j := 0) (hS.cell (k := 4) rfl (rfl)) (by omega))) fun a hF => ?_)
    refine wpList_stp (stp_gv hF (wanted_none rfl) rfl rfl (gv_rem rfl (hF.t rfl) (ev_const _ _) (by decide)) fun a hF => ?_)
    refine wpList_stp (stp_gv hF (wanted_none rfl) rfl rfl (gv_add rfl (hF.t rfl) (ev_const _ _) (by omega) (by omega)) fun a hF => ?_)
    refine wpList_stp (stp_gv hF (wanted_none rfl) rfl rfl (gv_rem rfl (hF.t rfl) (ev_const _ _) (by decide)) fun a hF => ?_)
    rw [hBe] at hF
    refine wpList_stp (stp_gv hF (wanted_none rfl) rfl rfl (gv_nadd (m := 10) (n := B) rfl rfl (hF.t rfl) (by omega)) fun a hF => ?_)
    refine wpList_stp (stp_call hF (wanted_none rfl) rfl rfl Tryd.ok31 rfl (Evs.cons (hF.t rfl) (Evs.cons (hF.t rfl) Evs.nil)) (read_ok (i := ((10 + B : Nat) : Int)) (dskW_of (k := 1) (k' := 2) hS rfl rfl) hK2.len) fun e w h => ?_)
    obtain ⟨rfl, hx⟩ := h
    refine ⟨_, rfl, fun a hF => ?_⟩
    replace hS := hS.ext hx
    clear hx
    obtain ⟨X, hX⟩ : ∃ X, X = rdF D2 20 ((10 + B : Nat) : Int) := ⟨_, rfl⟩
    have hXl : X.length = 64 := by rw [hX]; exact rdF_len hK2.len _
    rw [← hX] at hF
    refine wpList_stp (stp_alloc hF (wanted_none rfl) rfl rfl rfl Tryd.zv72 rfl hS fun x a w hF hS => ?_)
    refine wpList_stp (stp_storeAll hF (wanted_none rfl) rfl rfl (Tryd.sz72.trans (congrArg some (by rw [List.length_map, hXl]))) (hF.t rfl) (hF.t rfl) (one_B _) hS (k := 0) rfl (by rw [List.length_map, hXl]; rfl) fun w hS => ?_)
    refine wpList_nil ?_
    refine then_normal (hKq11 _ _ ?_)
    refine wp_seq_k fun Kq12 hKq12 => ?_
    -- region 10 (law.go:200)
    refine wp_region_lit ?_
    refine wpList_stp (stp_gv hF (wanted_none rfl) rfl rfl (gv_indexArr (q := 1) rfl Tryd.underlying64 Tryd.sz3 (hF.t rfl) rfl (by omega)) fun a hF => ?_)
    refine wpList_stp (stp_gv hF (wanted_none rfl) rfl rfl (gv_load rfl Tryd.underlying3 rfl (hF.t rfl) (cell_ix (j := 1) (hS.cell (k := 5) rfl (rfl)) (by omega))) fun a hF => ?_)
    refine wpList_stp (stp_gv hF (wanted_none rfl) rfl rfl (gv_rem rfl (hF.t rfl) (ev_const _ _) (by decide)) fun a hF => ?_)
    refine wpList_stp (stp_gv hF (wanted_none rfl) rfl rfl (gv_add rfl (hF.t rfl) (ev_const _ _) (by omega) (by omega)) fun a hF => ?_)
    refine wpList_stp (stp_gv hF (wanted_none rfl) rfl rfl (gv_rem rfl (hF.t rfl) (ev_const _ _) (by decide)) fun a hF => ?_)
    rw [hCe] at hF
    refine wpList_stp (stp_gv hF (wanted_none rfl) rfl rfl (gv_assign rfl (hF.t rfl)) fun a hF => ?_)
    refine wpList_nil ?_
    refine then_normal (hKq12 _ _ ?_)
    refine wp_seq_k fun Kq13 hKq13 => ?_
    -- region 11 (law.go:201)
    refine Fw.wp_region_draw (by kernel_rfl) fun w hx => ?_
    replace hS := hS.ext hx
    clear hx
    refine run_head0 (n := 10) _ hF (by kernel_rfl) rfl ?_
    refine dw_gv hF rfl (wanted_none rfl) rfl rfl (fun w hx => gv_move rfl (hF.t rfl)) fun a hF => ?_
    refine dw_gv hF rfl (wanted_none rfl) rfl rfl (fun w hx => gv_indexArr rfl Tryd.underlying72 Tryd.sz5 (hF.t rfl) (hF.t rfl) (by omega)) fun a hF => ?_
    refine dw_gv hF rfl (wanted_none rfl) rfl rfl (fun w hx => gv_load rfl Tryd.underlying5 rfl (hF.t rfl) (cell_ix ((hS.ext hx).cellB (k := 0) rfl (C) (by rw [hXl]; omega)) (by omega))) fun a hF => ?_
    refine dw_gv hF rfl (wanted_none rfl) rfl rfl (fun w hx => gv_indexArr (q := 2) rfl Tryd.underlying64 Tryd.sz3 (hF.t rfl) rfl (by omega)) fun a hF => ?_
    refine dw_gv hF rfl (wanted_none rfl) rfl rfl (fun w hx => gv_load rfl Tryd.underlying3 rfl (hF.t rfl) (cell_ix (j := 2) ((hS.ext hx).cell (k := 5) rfl (rfl)) (by omega))) fun a hF => ?_
    refine dw_gv hF rfl (wanted_none rfl) rfl rfl (fun w hx => gv_and127 rfl (hF.t rfl) (ev_const _ _)) fun a hF => ?_
    refine dw_gv hF rfl (wanted_none rfl) rfl rfl (fun w hx => gv_conv_i_b rfl Tryd.underlying3 Tryd.underlying5 (hF.t rfl)) fun a hF => ?_
    refine dw_gv hF rfl (wanted_none rfl) rfl rfl (fun w hx => gv_b_add (n := 1) rfl (hF.t rfl) rfl) fun a hF => ?_
    refine dw_gv hF rfl (wanted_none rfl) rfl rfl (fun w hx => gv_b_xor rfl (hF.t rfl) (hF.t rfl)) fun a hF => ?_
    refine dw_gv hF rfl (wanted_none rfl) rfl rfl (fun w hx => gv_indexArr rfl Tryd.underlying72 Tryd.sz5 (hF.t rfl) (hF.t rfl) (by omega)) fun a hF => ?_
    refine dw_nil fun a w hA hx => ?_
    replace hF := hA _ hF
    replace hS := hS.ext hx
    clear hA hx
    refine run_stp (by kernel_rfl) rfl (stp_storeB (C) hF (wanted_none rfl) rfl rfl Tryd.sz5 (hF.t rfl) (by omega) (hF.t rfl) hS (k := 0) rfl (by rw [hXl]; omega) fun w hS => ?_)
    obtain ⟨Y, hY⟩ : ∃ Y, Y = X.set C (X.getD C 0 ^^^ (UInt8.ofNat (bits7 k) + 1)) := ⟨_, rfl⟩
    have hYl : Y.length = 64 := by rw [hY, List.length_set]; exact hXl
    rw [← hY] at hS
    refine run_done (by decide) ?_
    refine then_normal (hKq13 _ _ ?_)
    refine wp_seq_k fun Kq14 hKq14 => ?_
    -- region 12 (law.go:202)
    refine wp_region_lit ?_
    refine wpList_stp (stp_gv hF (wanted_none rfl) rfl rfl (gv_move rfl (hF.t rfl)) fun a hF => ?_)
    refine wpList_stp (stp_gv hF (wanted_none rfl) rfl rfl (gv_indexArr (q := 0) rfl Tryd.underlying64 Tryd.sz3 (hF.t rfl) rfl (by omega)) fun a hF => ?_)
    refine wpList_stp (stp_gv hF (wanted_none rfl) rfl rfl (gv_load rfl Tryd.underlying3 rfl (hF.t rfl) (cell_ix (j := 0) (hS.cell (k := 5) rfl (rfl)) (by omega))) fun a hF => ?_)
    refine wpList_stp (stp_gv hF (wanted_none rfl) rfl rfl (gv_rem rfl (hF.t rfl) (ev_const _ _) (by decide)) fun a hF => ?_)
    refine wpList_stp (stp_gv hF (wanted_none rfl) rfl rfl (gv_add rfl (hF.t rfl) (ev_const _ _) (by omega) (by omega)) fun a hF => ?_)
    refine wpList_stp (stp_gv hF (wanted_none rfl) rfl rfl (gv_rem rfl (hF.t rfl) (ev_const _ _) (by decide)) fun a hF => ?_)
    rw [hBe] at hF
    refine wpList_stp (stp_gv hF (wanted_none rfl) rfl rfl (gv_nadd (m := 10) (n := B) rfl rfl (hF.t rfl) (by omega)) fun a hF => ?_)
    refine wpList_stp (stp_gv hF (wanted_none rfl) rfl rfl (gv_loadAll rfl Tryd.underlying72 rfl (Tryd.sz72.trans (congrArg some (by rw [List.length_map, hYl]))) (hF.t rfl) hS (k := 0) rfl) fun a hF => ?_)
    replace hS := hS.move (k := 3) rfl
    replace hS := hS.move (k := 3) rfl
    simp only [List.eraseIdx_cons_succ, List.eraseIdx_cons_zero] at hS
    refine wpList_stp (stp_call hF (wanted_none rfl) rfl rfl Tryd.ok32 rfl (Evs.cons (hF.t rfl) (Evs.cons (hF.t rfl) (Evs.cons (hF.t rfl) Evs.nil))) (dwrite_ok (i := ((10 + B : Nat) : Int)) (D := D2) (xl := Y) (nw_cons rfl (nw_cons rfl (nw_cons rfl (nw_cons rfl (nw_cons rfl (nw_cons rfl nw_nil)))))) hS hK2 hYl) fun e w h => ?_)
    obtain ⟨rfl, hS⟩ := h
    refine ⟨_, rfl, fun a hF => ?_⟩
    obtain ⟨D3, hD3⟩ : ∃ D3, D3 = (wrF D2 20 ((10 + B : Nat) : Int) Y).2 := ⟨_, rfl⟩
    rw [← hD3] at hS
    have hK3 : DkOk 20 D3 := by rw [hD3]; exact wrF_ok hK2 hYl
    have hd3 : D3.dead = false := by rw [hD3, wrF_free (by omega) hd2 hf2]; exact hd2
    have hf3 : D3.fuel = -1 := by rw [hD3, wrF_free (by omega) hd2 hf2]; exact hf2
    obtain ⟨OF, hOF⟩ : ∃ OF, OF = openF D3.l 20 := ⟨_, rfl⟩
    refine wpList_nil ?_
    refine then_normal (hKq14 _ _ ?_)
    refine wp_seq_k fun Kq15 hKq15 => ?_
    -- region 13 (law.go:203)
    refine wp_region_lit ?_
    refine wpList_stp (stp_gv hF (wanted_none rfl) rfl rfl (gv_move rfl (hF.t rfl)) fun a hF => ?_)
    refine wpList_stp (stp_call hF (wanted_none rfl) rfl rfl Tryd.ok29 rfl (Evs.cons (hF.t rfl) Evs.nil) (open_ok (hG.ext (hS.toExt (nw_cons rfl (nw_cons rfl (nw_cons rfl (nw_cons rfl (nw_cons rfl (nw_cons rfl (nw_cons rfl (nw_cons rfl nw_nil)))))))))) (dskW_of (k := 0) (k' := 1) hS rfl rfl) hK3) fun e w h => ?_)
    obtain ⟨v3, rfl, hN⟩ := h
    refine ⟨_, rfl, fun a hF => ?_⟩
    rw [show openF D3.l 20 = OF from hOF.symm] at hF hN
    replace hS := hS.join hN (nw_cons rfl nw_nil)
    simp only [List.cons_append, List.nil_append] at hS
    clear hN
    refine wpList_stp (stp_gv hF (wanted_none rfl) rfl rfl (gv_move rfl (hF.t rfl)) fun a hF => ?_)
    refine wpList_stp (stp_gv hF (wanted_none rfl) rfl rfl (gv_extract rfl (hF.t rfl) rfl) fun a hF => ?_)
    refine wpList_stp (stp_gv hF (wanted_none rfl) rfl rfl (gv_extract rfl (hF.t rfl) rfl) fun a hF => ?_)
    refine wpList_stp (stp_gv hF (wanted_none rfl) rfl rfl (gv_extract rfl (hF.t rfl) rfl) fun a hF => ?_)
    refine wpList_stp (stp_alloc hF (wanted_none rfl) rfl rfl rfl Tryd.zv63 rfl hS fun r15 a w hF hS => ?_)
    refine wpList_stp (stp_gv hF (wanted_none rfl) rfl rfl (gv_assign rfl (hF.t rfl)) fun a hF => ?_)
    refine wpList_stp (stp_storeAll hF (wanted_none rfl) rfl rfl (Tryd.sz63.trans (congrArg some (rfl))) (hF.t rfl) (hF.t rfl) ((by intro u hu; simp at hu; rcases hu with rfl | rfl | rfl <;> rfl)) hS (k := 0) rfl (rfl) fun w hS => ?_)
    refine wpList_stp (stp_gv hF (wanted_none rfl) rfl rfl (gv_assign rfl (hF.t rfl)) fun a hF => ?_)
    refine wpList_nil ?_
    refine then_normal (hKq15 _ _ ?_)
    obtain ⟨og, ok, ⟨ga, gc, gp⟩, of⟩ := OF
    have hok : ok ≤ 1 := by have := openN_at D3.l 20 2 (Nat.le_refl 2); rw [show openN D3.l 20 2 = openF D3.l 20 from rfl, ← hOF] at this; exact this
    cases of
    ·
      refine wp_seq_k fun Kq16 hKq16 => ?_
      -- region 14 (law.go:204)
      refine wp_region_lit ?_
      refine wpList_stp (stp_gv hF (wanted_none rfl) rfl rfl (gv_move rfl (hF.t rfl)) fun a hF => ?_)
      refine wpList_stp (stp_call hF (wanted_none rfl) rfl rfl Tryd.ok34 rfl (Evs.cons (hF.t rfl) Evs.nil) (image_ok (dskW_of (k := 2) (k' := 3) hS rfl rfl) hK3.len (by decide)) fun e w h => ?_)
      obtain ⟨o, op, rfl, oo, oc, hN⟩ := h
      refine ⟨_, rfl, fun a hF => ?_⟩
      replace hS := hS.join hN (nw_cons rfl nw_nil)
      simp only [List.cons_append, List.nil_append] at hS
      clear hN
      refine wpList_stp (stp_call hF (wanted_none rfl) rfl rfl Tryd.ok33 rfl (Evs.cons (hF.t rfl) Evs.nil) (rnewest_ok ((own_rd (w0 := w0) (ob := o) (l := D3.l) List.mem_cons_self oo rfl oc) w _ hS (nw_cons rfl (nw_cons rfl (nw_cons rfl (nw_cons rfl (nw_cons rfl (nw_cons rfl (nw_cons rfl (nw_cons rfl (nw_cons rfl (nw_cons rfl (nw_cons rfl nw_nil))))))))))) (fun e he => he)) (by rw [hK3.len]; decide) (by rw [hK3.len]; decide)) fun e w h => ?_)
      obtain ⟨rfl, hx⟩ := h
      refine ⟨_, rfl, fun a hF => ?_⟩
      replace hS := hS.ext hx
      clear hx
      rw [show newR D3.l = ((-1 : Int), rc0, (0 : UInt64)) from by rw [new_same hK3.len (by decide), ← hOF]; rfl] at hF
      refine wpList_stp (stp_gv hF (wanted_none rfl) rfl rfl (gv_move rfl (hF.t rfl)) fun a hF => ?_)
      refine wpList_stp (stp_gv hF (wanted_none rfl) rfl rfl (gv_extract rfl (hF.t rfl) rfl) fun a hF => ?_)
      refine wpList_stp (stp_gv hF (wanted_none rfl) rfl rfl (gv_extract rfl (hF.t rfl) rfl) fun a hF => ?_)
      refine wpList_stp (stp_gv hF (wanted_none rfl) rfl rfl (gv_extract rfl (hF.t rfl) rfl) fun a hF => ?_)
      refine wpList_stp (stp_alloc hF (wanted_none rfl) rfl rfl rfl Tryd.zv75 rfl hS fun r18 a w hF hS => ?_)
      refine wpList_stp (stp_gv hF (wanted_none rfl) rfl rfl (gv_assign rfl (hF.t rfl)) fun a hF => ?_)
      refine wpList_stp (stp_storeAll hF (wanted_none rfl) rfl rfl (Tryd.sz75.trans (congrArg some (rfl))) (hF.t rfl) (hF.t rfl) ((by intro u hu; simp at hu; rcases hu with rfl | rfl | rfl <;> rfl)) hS (k := 0) rfl (rfl) fun w hS => ?_)
      refine wpList_stp (stp_gv hF (wanted_none rfl) rfl rfl (gv_assign rfl (hF.t rfl)) fun a hF => ?_)
      refine wpList_nil ?_
      refine then_normal (hKq16 _ _ ?_)
      refine wp_seq_k fun Kq17 hKq17 => ?_
      refine wp_seq_k fun Kq18 hKq18 => ?_
      -- region 15 (law.go:205)
      refine wp_region_lit ?_
      refine wpList_stp (stp_gv hF (wanted_none rfl) rfl rfl (gv_move rfl (hF.t rfl)) fun a hF => ?_)
      refine wpList_stp (stp_gv hF (wanted_none rfl) rfl rfl (gv_lssT rfl (hF.t rfl) (ev_const _ _) (by show ((-1 : Int) < 0); decide)) fun a hF => ?_)
      refine wpList_nil ?_
      refine then_normal (hKq18 _ _ ?_)
      refine wp_cond_true (hF.t rfl) ?_
      refine wp_seq_k fun Kq19 hKq19 => ?_
      -- region 16 (law.go:206)
      refine wp_region_lit ?_
      refine wpList_stp (stp_gv hF (wanted_none rfl) rfl rfl (gv_move rfl (hF.t rfl)) fun a hF => ?_)
      refine wpList_stp (stp_gv hF (wanted_none rfl) rfl rfl (gv_eqlT rfl (hF.t rfl) (ev_const _ _) (rfl)) fun a hF => ?_)
      refine wpList_stp (stp_gv hF (wanted_none rfl) rfl rfl (gv_assign rfl (hF.t rfl)) fun a hF => ?_)
      refine wpList_nil ?_
      refine then_normal (hKq19 _ _ ?_)
      refine wp_ret ?_
      refine then_ret ?_
      refine ret1 (fn := Tryd.f8) (t := 6) hF rfl rfl ?_
      exact ⟨rfl, hS.toExt (nw_cons rfl (nw_cons rfl (nw_cons rfl (nw_cons rfl (nw_cons rfl (nw_cons rfl (nw_cons rfl (nw_cons rfl (nw_cons rfl (nw_cons rfl (nw_cons rfl (nw_cons rfl nw_nil))))))))))))⟩
    ·
      replace hS : St w0 w (⟨true, some r15, recO ga gc gp⟩ :: _) := hS
      refine wp_seq_k fun Kq20 hKq20 => ?_
      -- region 14 (law.go:204)
      refine wp_region_lit ?_
      refine wpList_stp (stp_gv hF (wanted_none rfl) rfl rfl (gv_move rfl (hF.t rfl)) fun a hF => ?_)
      refine wpList_stp (stp_call hF (wanted_none rfl) rfl rfl Tryd.ok34 rfl (Evs.cons (hF.t rfl) Evs.nil) (image_ok (dskW_of (k := 2) (k' := 3) hS rfl rfl) hK3.len (by decide)) fun e w h => ?_)
      obtain ⟨o, op, rfl, oo, oc, hN⟩ := h
      refine ⟨_, rfl, fun a hF => ?_⟩
      replace hS := hS.join hN (nw_cons rfl nw_nil)
      simp only [List.cons_append, List.nil_append] at hS
      clear hN
      refine wpList_stp (stp_call hF (wanted_none rfl) rfl rfl Tryd.ok33 rfl (Evs.cons (hF.t rfl) Evs.nil) (rnewest_ok ((own_rd (w0 := w0) (ob := o) (l := D3.l) List.mem_cons_self oo rfl oc) w _ hS (nw_cons rfl (nw_cons rfl (nw_cons rfl (nw_cons rfl (nw_cons rfl (nw_cons rfl (nw_cons rfl (nw_cons rfl (nw_cons rfl (nw_cons rfl (nw_cons rfl nw_nil))))))))))) (fun e he => he)) (by rw [hK3.len]; decide) (by rw [hK3.len]; decide)) fun e w h => ?_)
      obtain ⟨rfl, hx⟩ := h
      refine ⟨_, rfl, fun a hF => ?_⟩
      replace hS := hS.ext hx
      clear hx
      rw [show newR D3.l = ((ok : Int), (⟨ga, gc, gp⟩ : Rc), og) from by rw [new_same hK3.len (by decide), ← hOF]; rfl] at hF
      refine wpList_stp (stp_gv hF (wanted_none rfl) rfl rfl (gv_move rfl (hF.t rfl)) fun a hF => ?_)
      refine wpList_stp (stp_gv hF (wanted_none rfl) rfl rfl (gv_extract rfl (hF.t rfl) rfl) fun a hF => ?_)
      refine wpList_stp (stp_gv hF (wanted_none rfl) rfl rfl (gv_extract rfl (hF.t rfl) rfl) fun a hF => ?_)
      refine wpList_stp (stp_gv hF (wanted_none rfl) rfl rfl (gv_extract rfl (hF.t rfl) rfl) fun a hF => ?_)
      refine wpList_stp (stp_alloc hF (wanted_none rfl) rfl rfl rfl Tryd.zv75 rfl hS fun r18 a w hF hS => ?_)
      refine wpList_stp (stp_gv hF (wanted_none rfl) rfl rfl (gv_assign rfl (hF.t rfl)) fun a hF => ?_)
      refine wpList_stp (stp_storeAll hF (wanted_none rfl) rfl rfl (Tryd.sz75.trans (congrArg some (rfl))) (hF.t rfl) (hF.t rfl) ((by intro u hu; simp at hu; rcases hu with rfl | rfl | rfl <;> rfl)) hS (k := 0) rfl (rfl) fun w hS => ?_)
      refine wpList_stp (stp_gv hF (wanted_none rfl) rfl rfl (gv_assign rfl (hF.t rfl)) fun a hF => ?_)
      refine wpList_nil ?_
      refine then_normal (hKq20 _ _ ?_)
      refine wp_seq_k fun Kq21 hKq21 => ?_
      refine wp_seq_k fun Kq22 hKq22 => ?_
      -- region 15 (law.go:205)
      refine wp_region_lit ?_
      refine wpList_stp (stp_gv hF (wanted_none rfl) rfl rfl (gv_move rfl (hF.t rfl)) fun a hF => ?_)
      refine wpList_stp (stp_gv hF (wanted_none rfl) rfl rfl (gv_lssF rfl (hF.t rfl) (ev_const _ _) (by show ¬ ((ok : Int) < 0); omega)) fun a hF => ?_)
      refine wpList_nil ?_
      refine then_normal (hKq22 _ _ ?_)
      refine wp_cond_false (hF.t rfl) ?_
      refine wp_skip ?_
      refine then_normal (hKq21 _ _ ?_)
      refine wp_seq_k fun Kq23 hKq23 => ?_
      refine wp_seq_k fun Kq24 hKq24 => ?_
      -- region 17 (law.go:208)
      refine Fw.wp_region_draw (by kernel_rfl) fun w hx => ?_
      replace hS := hS.ext hx
      clear hx
      refine run_head0 (n := 8) _ hF (by kernel_rfl) rfl ?_
      refine dw_gv hF rfl (wanted_none rfl) rfl rfl (fun w hx => gv_move rfl (hF.t rfl)) fun a hF => ?_
      refine dw_gv hF rfl (wanted_none rfl) rfl rfl (fun w hx => gv_neqF rfl (hF.t rfl) (ev_const _ _) (fun h => h rfl)) fun a hF => ?_
      refine dw_gv hF rfl (wanted_none rfl) rfl rfl (fun w hx => gv_move rfl (hF.t rfl)) fun a hF => ?_
      refine dw_gv hF rfl (wanted_of hF rfl rfl (rfl)) rfl rfl (fun w hx => gv_loadAll rfl Tryd.underlying63 rfl (Tryd.sz63.trans (congrArg some (rfl))) (hF.t rfl) (hS.ext hx) (k := 2) rfl) fun a hF => ?_
      refine dw_call hF rfl (wanted_of hF rfl rfl (rfl)) rfl rfl Tryd.ok35 rfl (Evs.cons (hF.t rfl) Evs.nil) (fun w hx => of_ok) fun a hF => ?_
      refine dw_gv hF rfl (wanted_of hF rfl rfl (rfl)) rfl rfl (fun w hx => gv_loadAll rfl Tryd.underlying75 rfl (Tryd.sz75.trans (congrArg some (rfl))) (hF.t rfl) (hS.ext hx) (k := 0) rfl) fun a hF => ?_
      refine dw_gv hF rfl (wanted_of hF rfl rfl (rfl)) rfl rfl (fun w hx => gv_recNeq rec3r rfl (hF.t rfl) (hF.t rfl)) fun a hF => ?_
      rw [decide_eq_false (show ¬ ¬ (ga = ga ∧ gc = gc ∧ gp = gp) from fun h => h ⟨rfl, rfl, rfl⟩)] at hF
      refine dw_gv hF rfl (wanted_none rfl) rfl rfl (fun w hx => gv_pickF rfl (hF.t rfl) (hF.t rfl)) fun a hF => ?_
      refine dw_nil fun a w hA hx => ?_
      replace hF := hA _ hF
      replace hS := hS.ext hx
      clear hA hx
      refine run_done (by decide) ?_
      refine then_normal (hKq24 _ _ ?_)
      refine wp_cond_false (hF.t rfl) ?_
      refine wp_skip ?_
      refine then_normal (hKq23 _ _ ?_)
      refine wp_seq_k fun Kq25 hKq25 => ?_
      refine wp_seq_k fun Kq26 hKq26 => ?_
      -- region 19 (law.go:211)
      refine wp_region_lit ?_
      refine wpList_stp (stp_gv hF (wanted_none rfl) rfl rfl (gv_move rfl (ev_const _ _)) fun a hF => ?_)
      refine wpList_nil ?_
      refine then_normal (hKq26 _ _ ?_)
      refine wp_block ?_
      replace hS := hS.move (k := 11) rfl
      replace hS := hS.move (k := 6) rfl
      replace hS := hS.move (k := 6) rfl
      simp only [List.eraseIdx_cons_succ, List.eraseIdx_cons_zero] at hS
      replace hS : St w0 w [⟨true, some d, dskO p 20 20 D3⟩, ⟨true, some p, datO D3 []⟩, ⟨true, some ra, recO la lc lp⟩] := stTake hS 3 (nw_cons rfl (nw_cons rfl (nw_cons rfl (nw_cons rfl (nw_cons rfl (nw_cons rfl (nw_cons rfl (nw_cons rfl (nw_cons rfl nw_nil)))))))))
      refine wp_loop_n (fun nn a w => ∃ q, q ≤ 20 ∧ nn = 20 - q ∧ Fr 164 a [(3, .pointer (some ⟨ra, 0, none⟩)), (7, .pointer (some ⟨d, 0, none⟩)), (124, vI q)] ∧ St w0 w [⟨true, some d, dskO p 20 20 (zapF D3 q)⟩, ⟨true, some p, datO (zapF D3 q) []⟩, ⟨true, some ra, recO la lc lp⟩]) 20 ⟨0, by omega, by omega, hF.sub ⟨rfl, rfl, rfl, trivial⟩, hS⟩ ?_
      rintro nn a w ⟨q, hq, hnn, hF, hS⟩
      refine wp_seq_k fun Kq27 hKq27 => ?_
      -- region 20 (law.go:211)
      refine wp_region_lit ?_
      refine wpList_stp (stp_gv hF (wanted_none rfl) rfl rfl (gv_lss rfl (hF.t rfl) (ev_const _ _)) fun a hF => ?_)
      refine wpList_nil ?_
      refine then_normal (hKq27 _ _ ?_)
      refine wp_seq_k fun Kq28 hKq28 => ?_
      refine cond_dec (hF.t rfl) (fun h125 => ?_) (fun h125 => ?_)
      ·
        refine wp_skip ?_
        refine then_normal (hKq28 _ _ ?_)
        refine wp_seq_k fun Kq29 hKq29 => ?_
        refine wp_block ?_
        refine wp_seq_k fun Kq30 hKq30 => ?_
        -- region 21 (law.go:211)
        refine wp_region_lit ?_
        refine wpList_stp (stp_gv hF (wanted_none rfl) rfl rfl (gv_move rfl (hF.t rfl)) fun a hF => ?_)
        refine wpList_stp (stp_gv hF (wanted_none rfl) rfl rfl (gv_assign rfl (hF.t rfl)) fun a hF => ?_)
        refine wpList_nil ?_
        refine then_normal (hKq30 _ _ ?_)
        -- region 22 (law.go:212)
        refine wp_region_lit ?_
        refine wpList_stp (stp_gv hF (wanted_none rfl) rfl rfl (gv_move rfl (hF.t rfl)) fun a hF => ?_)
        refine wpList_stp (stp_gv hF (wanted_none rfl) rfl rfl (gv_move rfl (hF.t rfl)) fun a hF => ?_)
        refine wpList_stp (stp_gv hF (wanted_none rfl) rfl rfl (gv_build rfl (EvP.map EvP.nil) (build_z64 _)) fun a hF => ?_)
        refine wpList_stp (stp_call hF (wanted_none rfl) rfl rfl Tryd.ok32 rfl (Evs.cons (hF.t rfl) (Evs.cons (hF.t rfl) (Evs.cons (hF.t rfl) Evs.nil))) (dwrite_ok (i := ((q : Nat) : Int)) (D := zapF D3 q) (xl := zero64) (nw_cons rfl nw_nil) hS (zap_ok hK3 hd3 hf3 q hq).1 rfl) fun e w h => ?_)
        obtain ⟨rfl, hS⟩ := h
        refine ⟨_, rfl, fun a hF => ?_⟩
        refine wpList_nil ?_
        refine block_normal ?_
        refine then_normal (hKq29 _ _ ?_)
        -- region 23 (law.go:211)
        refine wp_region_lit ?_
        refine wpList_stp (stp_gv hF (wanted_none rfl) rfl rfl (gv_nadd (n := 1) rfl (hF.t rfl) rfl (by omega)) fun a hF => ?_)
        refine wpList_stp (stp_gv hF (wanted_none rfl) rfl rfl (gv_move rfl (hF.t rfl)) fun a hF => ?_)
        refine wpList_nil ?_
        refine then_normal ?_
        exact ⟨nn - 1, by omega, q + 1, by omega, by omega, hF.sub ⟨rfl, rfl, rfl, trivial⟩, hS⟩
      ·
        refine wp_exit ?_
        refine then_exit ?_
        refine then_exit ?_
        refine block_exit ?_
        refine then_normal (hKq25 _ _ ?_)
        refine wp_seq_k fun Kq31 hKq31 => ?_
        obtain rfl : q = 20 := by omega
        obtain ⟨D4, hD4⟩ : ∃ D4, D4 = zapF D3 20 := ⟨_, rfl⟩
        obtain ⟨hK4, hd4, hf4, hz4⟩ := zap_ok hK3 hd3 hf3 20 (by omega)
        rw [← hD4] at hK4 hd4 hf4 hz4 hS
        have ho4 := zero_open hz4
        obtain ⟨V5, D5, hs5⟩ := saveF_free (V := ⟨0, 1⟩) (r := ⟨la, lc, lp⟩) hK4 (by decide) (by show (recB la lc lp).length ≤ _; omega) (by show la.length ≤ _; omega) (by show lc.length ≤ _; omega) hd4 hf4
        obtain ⟨hK5, ho5⟩ := zero_save hK4 hz4 hs5
        -- region 24 (law.go:214)
        refine wp_region_lit ?_
        refine wpList_stp (stp_gv hF (wanted_none rfl) rfl rfl (gv_move rfl (hF.t rfl)) fun a hF => ?_)
        refine wpList_stp (stp_call hF (wanted_none rfl) rfl rfl Tryd.ok29 rfl (Evs.cons (hF.t rfl) Evs.nil) (open_ok (hG.ext (hS.toExt (nw_cons rfl (nw_cons rfl (nw_cons rfl nw_nil))))) (dskW_of (k := 0) (k' := 1) hS rfl rfl) hK4) fun e w h => ?_)
        obtain ⟨v4, rfl, hN⟩ := h
        refine ⟨_, rfl, fun a hF => ?_⟩
        rw [ho4] at hF hN
        replace hS := hS.join hN (nw_cons rfl nw_nil)
        simp only [List.cons_append, List.nil_append] at hS
        clear hN
        refine wpList_stp (stp_gv hF (wanted_none rfl) rfl rfl (gv_move rfl (hF.t rfl)) fun a hF => ?_)
        refine wpList_stp (stp_gv hF (wanted_none rfl) rfl rfl (gv_extract rfl (hF.t rfl) rfl) fun a hF => ?_)
        refine wpList_stp (stp_gv hF (wanted_none rfl) rfl rfl (gv_extract rfl (hF.t rfl) rfl) fun a hF => ?_)
        refine wpList_stp (stp_gv hF (wanted_none rfl) rfl rfl (gv_extract rfl (hF.t rfl) rfl) fun a hF => ?_)
        refine wpList_stp (stp_alloc hF (wanted_none rfl) rfl rfl rfl Tryd.zv63 rfl hS fun r22 a w hF hS => ?_)
        refine wpList_stp (stp_gv hF (wanted_none rfl) rfl rfl (gv_assign rfl (hF.t rfl)) fun a hF => ?_)
        refine wpList_stp (stp_storeAll hF (wanted_none rfl) rfl rfl (Tryd.sz63.trans (congrArg some (rfl))) (hF.t rfl) (hF.t rfl) ((by intro u hu; simp at hu; rcases hu with rfl | rfl | rfl <;> rfl)) hS (k := 0) rfl (rfl) fun w hS => ?_)
        replace hS : St w0 w (⟨true, some r22, recO [] [] false⟩ :: _) := hS
        refine wpList_stp (stp_gv hF (wanted_none rfl) rfl rfl (gv_assign rfl (hF.t rfl)) fun a hF => ?_)
        refine wpList_nil ?_
        refine then_normal (hKq31 _ _ ?_)
        refine wp_seq_k fun Kq32 hKq32 => ?_
        refine wp_seq_k fun Kq33 hKq33 => ?_
        -- region 25 (law.go:215)
        refine wp_region_lit ?_
        refine wpList_stp (stp_gv hF (wanted_none rfl) rfl rfl (gv_move rfl (hF.t rfl)) fun a hF => ?_)
        refine wpList_stp (stp_gv hF (wanted_none rfl) rfl rfl (gv_neqF rfl (hF.t rfl) (ev_const _ _) (fun h => h rfl)) fun a hF => ?_)
        refine wpList_stp (stp_gv hF (wanted_none rfl) rfl rfl (gv_move rfl (hF.t rfl)) fun a hF => ?_)
        refine wpList_stp (stp_gv hF (wanted_of hF rfl rfl (rfl)) rfl rfl (gv_loadAll rfl Tryd.underlying63 rfl (Tryd.sz63.trans (congrArg some (rfl))) (hF.t rfl) hS (k := 0) rfl) fun a hF => ?_)
        refine wpList_stp (stp_gv hF (wanted_of hF rfl rfl (rfl)) rfl rfl (gv_build rfl (EvP.map EvP.nil) (build_rec0 _)) fun a hF => ?_)
        refine wpList_stp (stp_gv hF (wanted_of hF rfl rfl (rfl)) rfl rfl (gv_recNeq rec3 rfl (hF.t rfl) (hF.t rfl)) fun a hF => ?_)
        rw [decide_eq_false (show ¬ ¬ (([] : List UInt8) = [] ∧ ([] : List UInt8) = [] ∧ false = false) from fun h => h ⟨rfl, rfl, rfl⟩)] at hF
        refine wpList_stp (stp_gv hF (wanted_none rfl) rfl rfl (gv_pickF rfl (hF.t rfl) (hF.t rfl)) fun a hF => ?_)
        refine wpList_stp (stp_gv hF (wanted_none rfl) rfl rfl (gv_move rfl (hF.t rfl)) fun a hF => ?_)
        refine wpList_stp (stp_gv hF (wanted_of hF rfl rfl (rfl)) rfl rfl (gv_move rfl (hF.t rfl)) fun a hF => ?_)
        refine wpList_stp (stp_gv hF (wanted_of hF rfl rfl (rfl)) rfl rfl (gv_loadAll rfl Tryd.underlying63 rfl (Tryd.sz63.trans (congrArg some (rfl))) (hF.t rfl) hS (k := 4) rfl) fun a hF => ?_)
        replace hS := hS.move (k := 3) rfl
        replace hS := hS.move (k := 3) rfl
        replace hS := hS.move (k := 3) rfl
        simp only [List.eraseIdx_cons_succ, List.eraseIdx_cons_zero] at hS
        refine wpList_stp (stp_call hF (wanted_of hF rfl rfl rfl) rfl rfl Tryd.ok30 rfl (Evs.cons (hF.t rfl) (Evs.cons (hF.t rfl) Evs.nil)) (save_ok (V := ⟨0, 1⟩) (al := la) (cl := lc) (pp := lp) hG (nw_cons rfl (nw_cons rfl nw_nil)) hS hK4 (by decide) (by omega) (by omega)) fun e w h => ?_)
        obtain ⟨rfl, hS⟩ := h
        refine ⟨_, rfl, fun a hF => ?_⟩
        rw [hs5] at hF hS
        refine wpList_stp (stp_gv hF (wanted_of hF rfl rfl (rfl)) rfl rfl (gv_neqF rfl (hF.t rfl) (ev_const _ _) (fun h => h rfl)) fun a hF => ?_)
        refine wpList_stp (stp_gv hF (wanted_none rfl) rfl rfl (gv_pickF rfl (hF.t rfl) (hF.t rfl)) fun a hF => ?_)
        refine wpList_nil ?_
        refine then_normal (hKq33 _ _ ?_)
        refine wp_cond_false (hF.t rfl) ?_
        refine wp_skip ?_
        refine then_normal (hKq32 _ _ ?_)
        refine wp_seq_k fun Kq34 hKq34 => ?_
        -- region 27 (law.go:218)
        refine wp_region_lit ?_
        refine wpList_stp (stp_gv hF (wanted_none rfl) rfl rfl (gv_move rfl (hF.t rfl)) fun a hF => ?_)
        refine wpList_stp (stp_call hF (wanted_none rfl) rfl rfl Tryd.ok29 rfl (Evs.cons (hF.t rfl) Evs.nil) (open_ok (hG.ext (hS.toExt (nw_cons rfl (nw_cons rfl (nw_cons rfl (nw_cons rfl (nw_cons rfl nw_nil))))))) (dskW_of (k := 1) (k' := 2) hS rfl rfl) hK5) fun e w h => ?_)
        obtain ⟨v5, rfl, hN⟩ := h
        refine ⟨_, rfl, fun a hF => ?_⟩
        rw [ho5] at hF hN
        replace hS := hS.join hN (nw_cons rfl nw_nil)
        simp only [List.cons_append, List.nil_append] at hS
        clear hN
        refine wpList_stp (stp_gv hF (wanted_none rfl) rfl rfl (gv_move rfl (hF.t rfl)) fun a hF => ?_)
        refine wpList_stp (stp_gv hF (wanted_none rfl) rfl rfl (gv_extract rfl (hF.t rfl) rfl) fun a hF => ?_)
        refine wpList_stp (stp_gv hF (wanted_none rfl) rfl rfl (gv_extract rfl (hF.t rfl) rfl) fun a hF => ?_)
        refine wpList_stp (stp_gv hF (wanted_none rfl) rfl rfl (gv_extract rfl (hF.t rfl) rfl) fun a hF => ?_)
        refine wpList_stp (stp_alloc hF (wanted_none rfl) rfl rfl rfl Tryd.zv63 rfl hS fun r25 a w hF hS => ?_)
        refine wpList_stp (stp_gv hF (wanted_none rfl) rfl rfl (gv_assign rfl (hF.t rfl)) fun a hF => ?_)
        refine wpList_stp (stp_storeAll hF (wanted_none rfl) rfl rfl (Tryd.sz63.trans (congrArg some (rfl))) (hF.t rfl) (hF.t rfl) ((by intro u hu; simp at hu; rcases hu with rfl | rfl | rfl <;> rfl)) hS (k := 0) rfl (rfl) fun w hS => ?_)
        replace hS : St w0 w (⟨true, some r25, recO la lc lp⟩ :: _) := hS
        refine wpList_stp (stp_gv hF (wanted_none rfl) rfl rfl (gv_assign rfl (hF.t rfl)) fun a hF => ?_)
        refine wpList_nil ?_
        refine then_normal (hKq34 _ _ ?_)
        refine wp_seq_k fun Kq35 hKq35 => ?_
        -- region 28 (law.go:219)
        refine wp_region_lit ?_
        refine wpList_stp (stp_gv hF (wanted_none rfl) rfl rfl (gv_move rfl (hF.t rfl)) fun a hF => ?_)
        refine wpList_stp (stp_gv hF (wanted_none rfl) rfl rfl (gv_eqlT rfl (hF.t rfl) (ev_const _ _) (rfl)) fun a hF => ?_)
        refine wpList_stp (stp_gv hF (wanted_none rfl) rfl rfl (gv_move rfl (hF.t rfl)) fun a hF => ?_)
        refine wpList_stp (stp_gv hF (wanted_of hF rfl rfl (rfl)) rfl rfl (gv_loadAll rfl Tryd.underlying63 rfl (Tryd.sz63.trans (congrArg some (rfl))) (hF.t rfl) hS (k := 0) rfl) fun a hF => ?_)
        refine wpList_stp (stp_gv hF (wanted_of hF rfl rfl (rfl)) rfl rfl (gv_loadAll rfl Tryd.underlying63 rfl (Tryd.sz63.trans (congrArg some (rfl))) (hF.t rfl) hS (k := 6) rfl) fun a hF => ?_)
        refine wpList_stp (stp_gv hF (wanted_of hF rfl rfl (rfl)) rfl rfl (gv_recEql rec3 rfl (hF.t rfl) (hF.t rfl)) fun a hF => ?_)
        rw [decide_eq_true (show la = la ∧ lc = lc ∧ lp = lp from ⟨rfl, rfl, rfl⟩)] at hF
        refine wpList_stp (stp_gv hF (wanted_none rfl) rfl rfl (gv_pickT rfl (hF.t rfl) (hF.t rfl)) fun a hF => ?_)
        refine wpList_stp (stp_gv hF (wanted_none rfl) rfl rfl (gv_assign rfl (hF.t rfl)) fun a hF => ?_)
        refine wpList_nil ?_
        refine then_normal (hKq35 _ _ ?_)
        refine wp_ret ?_
        refine ret1 (fn := Tryd.f8) (t := 6) hF rfl rfl ?_
        exact ⟨rfl, hS.toExt (nw_cons rfl (nw_cons rfl (nw_cons rfl (nw_cons rfl (nw_cons rfl (nw_cons rfl (nw_cons rfl nw_nil)))))))⟩


end Go.Proofs.YtfhalnobaeogkaaDoor

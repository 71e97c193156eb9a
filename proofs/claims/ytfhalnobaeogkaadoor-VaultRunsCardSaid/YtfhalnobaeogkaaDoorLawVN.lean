/- What is proved: the fit of layer 18 returns true; VaultNone returns true. -/
import Derived.Test.YtfhalnobaeogkaaDoorProg
import Derived.Test.YtfhalnobaeogkaaDoorFwSep
import Derived.KernelRfl
import Derived.Test.YtfhalnobaeogkaaDoorFwSto
import Derived.Test.YtfhalnobaeogkaaDoorFwVlt
import Derived.Test.YtfhalnobaeogkaaDoorFwApp
import Derived.Test.YtfhalnobaeogkaaDoorFwWord
import Derived.Test.YtfhalnobaeogkaaDoorFwPkt
import Derived.Test.YtfhalnobaeogkaaDoorFwTok
import Derived.Test.YtfhalnobaeogkaaDoorDig
import Derived.Test.YtfhalnobaeogkaaDoorSum
import Derived.Test.YtfhalnobaeogkaaDoorWire
import Derived.Test.YtfhalnobaeogkaaDoorPktW
import Derived.Test.YtfhalnobaeogkaaDoorPktR
import Derived.Test.YtfhalnobaeogkaaDoorWireA
import Derived.Test.YtfhalnobaeogkaaDoorDisk
import Derived.Test.YtfhalnobaeogkaaDoorHead
import Derived.Test.YtfhalnobaeogkaaDoorHalf
import Derived.Test.YtfhalnobaeogkaaDoorOpen
import Derived.Test.YtfhalnobaeogkaaDoorSave
import Derived.Test.YtfhalnobaeogkaaDoorVPure
set_option linter.unusedVariables false
set_option linter.unusedSimpArgs false
namespace Go.Proofs.YtfhalnobaeogkaaDoor
open Go Go.RowKit Go.Fw

theorem Tryd.ok27 : CallOk Tryd.prog 27 := ⟨_, Tryd.func27, by kernel_rfl, by kernel_rfl⟩
theorem Tryd.ok28 : CallOk Tryd.prog 28 := ⟨_, Tryd.func28, by kernel_rfl, by kernel_rfl⟩
theorem Tryd.ok29 : CallOk Tryd.prog 29 := ⟨_, Tryd.func29, by kernel_rfl, by kernel_rfl⟩
theorem Tryd.ok30 : CallOk Tryd.prog 30 := ⟨_, Tryd.func30, by kernel_rfl, by kernel_rfl⟩
theorem Tryd.ok39 : CallOk Tryd.prog 39 := ⟨_, Tryd.func39, by kernel_rfl, by kernel_rfl⟩
theorem Tryd.ok40 : CallOk Tryd.prog 40 := ⟨_, Tryd.func40, by kernel_rfl, by kernel_rfl⟩
theorem Tryd.ok41 : CallOk Tryd.prog 41 := ⟨_, Tryd.func41, by kernel_rfl, by kernel_rfl⟩


theorem saveF_good {V V' : Vt} {D D' : Dk} {n : Nat} {r : Rc} (hK : DkOk n D) (hk : V.k ≤ 1) (h : saveF V D n r = (0, V', D')) :
    V' = ⟨V.g + 1, 1 - V.k⟩ ∧ halfF D'.l n (1 - V.k) = (r, V.g + 1, true) ∧ hblk D'.l n (1 - V.k) = headF (V.g + 1) (recB r.a r.c r.p) ∧
    (∀ i, 64 * (V.k * (n / 2)) ≤ i → i < 64 * (V.k * (n / 2) + n / 2) → D'.l[i]? = D.l[i]?) ∧ D'.dead = D.dead ∧ (D.fuel = -1 → D'.fuel = -1) ∧ DkOk n D' := by
  unfold saveF at h
  split at h
  · simp at h
  · exact savB_good hK hk (by omega) (by omega) (by omega) h
theorem saveF_free {V : Vt} {D : Dk} {n : Nat} {r : Rc} (hK : DkOk n D) (hk : V.k ≤ 1) (h1 : (recB r.a r.c r.p).length ≤ (n / 2 - 1) * 64) (h2 : r.a.length ≤ 16384) (h3 : r.c.length ≤ 16384) (hd : D.dead = false) (hf : D.fuel = -1) : ∃ V' D', saveF V D n r = (0, V', D') := by
  have h0 : saveF V D n r = savB V D n (recB r.a r.c r.p) := if_neg (by omega)
  have h4 := savB_free (V := V) (b := recB r.a r.c r.p) hK hk h1 hd hf
  rw [h0]
  generalize savB V D n (recB r.a r.c r.p) = s at h4
  obtain ⟨e, V', D'⟩ := s
  exact ⟨V', D', by rw [show e = 0 from h4]⟩
theorem saveF_full {V : Vt} {D : Dk} {n : Nat} {r : Rc} (h : ((n / 2 - 1) * 64 < (recB r.a r.c r.p).length ∨ 16384 < r.a.length) ∨ 16384 < r.c.length) : saveF V D n r = (22, V, D) := if_pos h
theorem new_open {n : Nat} (h : 4 ≤ n) : openF (newF n).l n = ⟨0, 1, rc0, false⟩ :=
  open_none (half_zero (zero_blk fun i h1 h2 => zero_get (by omega))) (half_zero (zero_blk fun i h1 h2 => zero_get (by omega)))
/-- The first saving of a new disk. -/
theorem first_save {n : Nat} {r : Rc} {V' : Vt} {D' : Dk} (h4 : 4 ≤ n) (h1 : n ≤ 1024) (h : saveF ⟨0, 1⟩ (newF n) n r = (0, V', D')) : DkOk n D' ∧ V' = ⟨1, 0⟩ ∧ D'.dead = false ∧ D'.fuel = -1 ∧ openF D'.l n = ⟨1, 0, r, true⟩ := by
  obtain ⟨q1, q2, q3, q4, q5, q6, q7⟩ := saveF_good (new_ok h4 h1) (by decide) h
  have hk : halfF D'.l n 0 = (r, 0 + 1, true) := q2
  have hz : (halfF D'.l n (1 - 0)).2.2 = false := half_zero (zero_blk fun i h1 h2 => by
    rw [q4 i (by simpa using h1) (by simp at h1 h2 ⊢; omega)]
    exact zero_get (by simp at h2; omega))
  exact ⟨q7, q1, q5, q6 rfl, open_one (by decide) hk (.inl hz)⟩
theorem fit_save : ∃ D', saveF ⟨0, 1⟩ (newF 6) 6 ⟨[115], [], true⟩ = (0, ⟨1, 0⟩, D') ∧ DkOk 6 D' ∧ openF D'.l 6 = ⟨1, 0, ⟨[115], [], true⟩, true⟩ := by
  obtain ⟨V', D', h⟩ := saveF_free (V := ⟨0, 1⟩) (r := ⟨[115], [], true⟩) (new_ok (n := 6) (by decide) (by decide)) (by decide) (by rw [recB_len]; decide) (by decide) (by decide) rfl rfl
  obtain ⟨h1, h2, h3, h4, h5⟩ := first_save (by decide) (by decide) h
  exact ⟨D', by rw [h, h2], h1, h5⟩
theorem build_rec02 (a : List UInt8) (p : Bool) (w : World) : (Instr.build 63 #[(0, sV a), (2, .bool p)]).run Tryd.prog w = .ok (.agg [sV a, sV [], .bool p].toArray) w := by
  refine run_buildStr (pl := [(0, sV a), (2, .bool p)]) (places := #[(0, 1), (1, 1), (2, 1)]) Tryd.underlying63 Tryd.zv63 rfl (fun w => ?_) ?_
  · simp [Fw.run_sizeOf Tryd.sz9, Fw.run_sizeOf Tryd.sz4]
  · rfl
theorem rc0_v : rc0.v = recV [] [] false := rfl
theorem rec3 : Rec3 Tryd.prog 63 9 4 := ⟨by kernel_rfl, by kernel_rfl, by kernel_rfl, Tryd.underlying9, Tryd.underlying4, by kernel_rfl⟩


theorem fit18_ok {w0 : World} (hG : Glob w0) :
    Calls Tryd.prog 27 #[] w0 fun e w' => e = .returned (.bool true) ∧ Ext w0 w' := by
  refine calls_start 53 Tryd.func27 rfl Tryd.ntmps27 rfl fun a hF => ?_
  have hS := St.refl w0
  obtain ⟨D1, hs1, hK1, ho1⟩ := fit_save
  refine wp_seq_k fun Kq1 hKq1 => ?_
  -- region 0 (law.go:11)
  refine wp_region_lit ?_
  refine wpList_stp (stp_gv hF (wanted_none rfl) rfl rfl (gv_assign rfl (ev_const _ _)) fun a hF => ?_)
  refine wpList_nil ?_
  refine then_normal (hKq1 _ _ ?_)
  refine wp_seq_k fun Kq2 hKq2 => ?_
  -- region 1 (law.go:12)
  refine wp_region_lit ?_
  refine wpList_stp (stp_call hF (wanted_none rfl) rfl rfl Tryd.ok28 rfl (Evs.cons rfl Evs.nil) (new_call (n := 6) (by omega) (by omega)) fun e w h => ?_)
  obtain ⟨d, p, rfl, hN⟩ := h
  refine ⟨_, rfl, fun a hF => ?_⟩
  replace hS := hS.join hN (nw_cons rfl (nw_cons rfl nw_nil))
  simp only [List.cons_append, List.nil_append] at hS
  clear hN
  refine wpList_stp (stp_gv hF (wanted_none rfl) rfl rfl (gv_move rfl (hF.t rfl)) fun a hF => ?_)
  refine wpList_stp (stp_gv hF (wanted_none rfl) rfl rfl (gv_extract rfl (hF.t rfl) rfl) fun a hF => ?_)
  refine wpList_stp (stp_gv hF (wanted_none rfl) rfl rfl (gv_extract rfl (hF.t rfl) rfl) fun a hF => ?_)
  refine wpList_stp (stp_gv hF (wanted_none rfl) rfl rfl (gv_assign rfl (hF.t rfl)) fun a hF => ?_)
  refine wpList_stp (stp_gv hF (wanted_none rfl) rfl rfl (gv_assign rfl (hF.t rfl)) fun a hF => ?_)
  refine wpList_nil ?_
  refine then_normal (hKq2 _ _ ?_)
  refine wp_seq_k fun Kq3 hKq3 => ?_
  -- region 2 (law.go:13)
  refine wp_region_lit ?_
  refine wpList_stp (stp_gv hF (wanted_none rfl) rfl rfl (gv_move rfl (hF.t rfl)) fun a hF => ?_)
  refine wpList_stp (stp_call hF (wanted_none rfl) rfl rfl Tryd.ok29 rfl (Evs.cons (hF.t rfl) Evs.nil) (open_ok (hG.ext (hS.toExt (nw_cons rfl (nw_cons rfl nw_nil)))) (dskW_of (k := 0) (k' := 1) hS rfl rfl) (new_ok (by decide) (by decide))) fun e w h => ?_)
  obtain ⟨v, rfl, hN⟩ := h
  refine ⟨_, rfl, fun a hF => ?_⟩
  rw [new_open (by decide)] at hF hN
  replace hS := hS.join hN (nw_cons rfl nw_nil)
  simp only [List.cons_append, List.nil_append] at hS
  clear hN
  refine wpList_stp (stp_gv hF (wanted_none rfl) rfl rfl (gv_move rfl (hF.t rfl)) fun a hF => ?_)
  refine wpList_stp (stp_gv hF (wanted_none rfl) rfl rfl (gv_extract rfl (hF.t rfl) rfl) fun a hF => ?_)
  refine wpList_stp (stp_gv hF (wanted_none rfl) rfl rfl (gv_extract rfl (hF.t rfl) rfl) fun a hF => ?_)
  refine wpList_stp (stp_gv hF (wanted_none rfl) rfl rfl (gv_extract rfl (hF.t rfl) rfl) fun a hF => ?_)
  refine wpList_stp (stp_alloc hF (wanted_none rfl) rfl rfl rfl Tryd.zv63 rfl hS fun r4 a w hF hS => ?_)
  refine wpList_stp (stp_gv hF (wanted_none rfl) rfl rfl (gv_assign rfl (hF.t rfl)) fun a hF => ?_)
  refine wpList_stp (stp_storeAll hF (wanted_none rfl) rfl rfl (Tryd.sz63.trans (congrArg some (rfl))) (hF.t rfl) (hF.t rfl) ((by intro u hu; simp at hu; rcases hu with rfl | rfl | rfl <;> rfl)) hS (k := 0) rfl (rfl) fun w hS => ?_)
  refine wpList_stp (stp_gv hF (wanted_none rfl) rfl rfl (gv_assign rfl (hF.t rfl)) fun a hF => ?_)
  refine wpList_nil ?_
  refine then_normal (hKq3 _ _ ?_)
  refine wp_seq_k fun Kq4 hKq4 => ?_
  -- region 3 (law.go:14)
  refine wp_region_lit ?_
  refine wpList_stp (stp_gv hF (wanted_none rfl) rfl rfl (gv_move rfl (hF.t rfl)) fun a hF => ?_)
  refine wpList_stp (stp_gv hF (wanted_none rfl) rfl rfl (gv_build rfl (EvP.map (EvP.cons (x := .const (sV [115])) (ev_const _ _) (EvP.cons (ev_const _ _) EvP.nil))) (build_rec02 _ _ _)) fun a hF => ?_)
  replace hS : St w0 w (⟨true, some v, vltO d 0 1⟩ :: ⟨true, some d, dskO p 6 6 (newF 6)⟩ :: ⟨true, some p, datO (newF 6) []⟩ :: [⟨true, some r4, recO [] [] false⟩]) := ((hS.move (k := 3) rfl).move (k := 3) rfl).move (k := 3) rfl
  refine wpList_stp (stp_call hF (wanted_none rfl) rfl rfl Tryd.ok30 rfl (Evs.cons (hF.t rfl) (Evs.cons (hF.t rfl) Evs.nil)) (save_ok (V := ⟨0, 1⟩) (al := [115]) (cl := []) (pp := true) hG (nw_cons rfl nw_nil) hS (new_ok (by decide) (by decide)) (by decide) (by decide) (by decide)) fun e w h => ?_)
  obtain ⟨rfl, hS⟩ := h
  refine ⟨_, rfl, fun a hF => ?_⟩
  rw [hs1] at hF hS
  refine wpList_stp (stp_gv hF (wanted_none rfl) rfl rfl (gv_assign rfl (hF.t rfl)) fun a hF => ?_)
  refine wpList_nil ?_
  refine then_normal (hKq4 _ _ ?_)
  refine wp_seq_k fun Kq5 hKq5 => ?_
  -- region 4 (law.go:15)
  refine wp_region_lit ?_
  refine wpList_stp (stp_gv hF (wanted_none rfl) rfl rfl (gv_move rfl (hF.t rfl)) fun a hF => ?_)
  refine wpList_stp (stp_call hF (wanted_none rfl) rfl rfl Tryd.ok40 rfl (Evs.cons (hF.t rfl) Evs.nil) (again_call (dskW_of (k := 1) (k' := 2) hS rfl rfl) hK1) fun e w h => ?_)
  obtain ⟨d2, p2, c2, pad2, rfl, hc1, hc2, hN⟩ := h
  refine ⟨_, rfl, fun a hF => ?_⟩
  replace hS := hS.join hN (nw_cons rfl (nw_cons rfl nw_nil))
  simp only [List.cons_append, List.nil_append] at hS
  clear hN
  refine wpList_stp (stp_call hF (wanted_none rfl) rfl rfl Tryd.ok29 rfl (Evs.cons (hF.t rfl) Evs.nil) (open_ok (hG.ext (hS.toExt (nw_cons rfl (nw_cons rfl (nw_cons rfl (nw_cons rfl (nw_cons rfl (nw_cons rfl nw_nil)))))))) (dskW_of (k := 0) (k' := 1) hS rfl rfl) (again_ok hK1)) fun e w h => ?_)
  obtain ⟨v2, rfl, hN⟩ := h
  refine ⟨_, rfl, fun a hF => ?_⟩
  rw [show openF (againF D1).l 6 = ⟨1, 0, ⟨[115], [], true⟩, true⟩ from ho1] at hF hN
  replace hS := hS.join hN (nw_cons rfl nw_nil)
  simp only [List.cons_append, List.nil_append] at hS
  clear hN
  refine wpList_stp (stp_gv hF (wanted_none rfl) rfl rfl (gv_move rfl (hF.t rfl)) fun a hF => ?_)
  refine wpList_stp (stp_gv hF (wanted_none rfl) rfl rfl (gv_extract rfl (hF.t rfl) rfl) fun a hF => ?_)
  refine wpList_stp (stp_gv hF (wanted_none rfl) rfl rfl (gv_extract rfl (hF.t rfl) rfl) fun a hF => ?_)
  refine wpList_stp (stp_gv hF (wanted_none rfl) rfl rfl (gv_extract rfl (hF.t rfl) rfl) fun a hF => ?_)
  refine wpList_stp (stp_alloc hF (wanted_none rfl) rfl rfl rfl Tryd.zv63 rfl hS fun r8 a w hF hS => ?_)
  refine wpList_stp (stp_gv hF (wanted_none rfl) rfl rfl (gv_assign rfl (hF.t rfl)) fun a hF => ?_)
  refine wpList_stp (stp_storeAll hF (wanted_none rfl) rfl rfl (Tryd.sz63.trans (congrArg some (rfl))) (hF.t rfl) (hF.t rfl) ((by intro u hu; simp at hu; rcases hu with rfl | rfl | rfl <;> rfl)) hS (k := 0) rfl (rfl) fun w hS => ?_)
  refine wpList_stp (stp_gv hF (wanted_none rfl) rfl rfl (gv_assign rfl (hF.t rfl)) fun a hF => ?_)
  refine wpList_nil ?_
  refine then_normal (hKq5 _ _ ?_)
  refine wp_seq_k fun Kq6 hKq6 => ?_
  -- region 5 (law.go:16)
  refine wp_region_lit ?_
  refine wpList_stp (stp_gv hF (wanted_none rfl) rfl rfl (gv_move rfl (hF.t rfl)) fun a hF => ?_)
  refine wpList_stp (stp_gv hF (wanted_none rfl) rfl rfl (gv_eqlT rfl (hF.t rfl) (ev_const _ _) (rfl)) fun a hF => ?_)
  refine wpList_stp (stp_gv hF (wanted_none rfl) rfl rfl (gv_move rfl (hF.t rfl)) fun a hF => ?_)
  refine wpList_stp (stp_gv hF (wanted_of hF rfl rfl (rfl)) rfl rfl (gv_move rfl (hF.t rfl)) fun a hF => ?_)
  refine wpList_stp (stp_gv hF (wanted_of hF rfl rfl (rfl)) rfl rfl (gv_eqlT rfl (hF.t rfl) (ev_const _ _) (rfl)) fun a hF => ?_)
  refine wpList_stp (stp_gv hF (wanted_none rfl) rfl rfl (gv_pickT rfl (hF.t rfl) (hF.t rfl)) fun a hF => ?_)
  refine wpList_stp (stp_gv hF (wanted_none rfl) rfl rfl (gv_move rfl (hF.t rfl)) fun a hF => ?_)
  refine wpList_stp (stp_gv hF (wanted_of hF rfl rfl (rfl)) rfl rfl (gv_move rfl (hF.t rfl)) fun a hF => ?_)
  refine wpList_stp (stp_gv hF (wanted_of hF rfl rfl (rfl)) rfl rfl (gv_eqlT rfl (hF.t rfl) (ev_const _ _) (rfl)) fun a hF => ?_)
  refine wpList_stp (stp_gv hF (wanted_none rfl) rfl rfl (gv_pickT rfl (hF.t rfl) (hF.t rfl)) fun a hF => ?_)
  refine wpList_stp (stp_gv hF (wanted_none rfl) rfl rfl (gv_move rfl (hF.t rfl)) fun a hF => ?_)
  refine wpList_stp (stp_gv hF (wanted_of hF rfl rfl (rfl)) rfl rfl (gv_move rfl (hF.t rfl)) fun a hF => ?_)
  refine wpList_stp (stp_gv hF (wanted_of hF rfl rfl (rfl)) rfl rfl (gv_eqlT rfl (hF.t rfl) (ev_const _ _) (rfl)) fun a hF => ?_)
  refine wpList_stp (stp_gv hF (wanted_none rfl) rfl rfl (gv_pickT rfl (hF.t rfl) (hF.t rfl)) fun a hF => ?_)
  refine wpList_stp (stp_gv hF (wanted_none rfl) rfl rfl (gv_move rfl (hF.t rfl)) fun a hF => ?_)
  refine wpList_stp (stp_gv hF (wanted_of hF rfl rfl (rfl)) rfl rfl (gv_field (r := 0) rfl Tryd.underlying63 rfl rfl Tryd.sz9 (by decide) (hF.t rfl)) fun a hF => ?_)
  refine wpList_stp (stp_gv hF (wanted_of hF rfl rfl (rfl)) rfl rfl (gv_load rfl Tryd.underlying9 rfl (hF.t rfl) (cell_ix (j := 0) (hS.cell (k := 0) rfl (rfl)) (by omega))) fun a hF => ?_)
  refine wpList_stp (stp_gv hF (wanted_of hF rfl rfl (rfl)) rfl rfl (gv_strEqlT (l := [115]) (l' := [115]) rfl (hF.t rfl) rfl rfl) fun a hF => ?_)
  refine wpList_stp (stp_gv hF (wanted_none rfl) rfl rfl (gv_pickT rfl (hF.t rfl) (hF.t rfl)) fun a hF => ?_)
  refine wpList_stp (stp_gv hF (wanted_none rfl) rfl rfl (gv_move rfl (hF.t rfl)) fun a hF => ?_)
  refine wpList_stp (stp_gv hF (wanted_of hF rfl rfl (rfl)) rfl rfl (gv_field (r := 2) rfl Tryd.underlying63 rfl rfl Tryd.sz4 (by decide) (hF.t rfl)) fun a hF => ?_)
  refine wpList_stp (stp_gv hF (wanted_of hF rfl rfl (rfl)) rfl rfl (gv_load rfl Tryd.underlying4 rfl (hF.t rfl) (cell_ix (j := 2) (hS.cell (k := 0) rfl (rfl)) (by omega))) fun a hF => ?_)
  refine wpList_stp (stp_gv hF (wanted_none rfl) rfl rfl (gv_pickT rfl (hF.t rfl) (hF.t rfl)) fun a hF => ?_)
  refine wpList_stp (stp_gv hF (wanted_none rfl) rfl rfl (gv_assign rfl (hF.t rfl)) fun a hF => ?_)
  refine wpList_nil ?_
  refine then_normal (hKq6 _ _ ?_)
  refine wp_ret ?_
  refine ret1 (fn := Tryd.f27) (t := 0) hF rfl rfl ?_
  exact ⟨rfl, hS.toExt (nw_cons rfl (nw_cons rfl (nw_cons rfl (nw_cons rfl (nw_cons rfl (nw_cons rfl (nw_cons rfl (nw_cons rfl nw_nil))))))))⟩


def one64 (x : UInt8) : List UInt8 := (List.replicate 64 (0 : UInt8)).set 0 x
theorem build_one (x : UInt8) (w : World) : (Instr.build 72 #[(0, .int .u8 (x.toNat : Int))]).run Tryd.prog w = .ok (.agg ((one64 x).map vB).toArray) w :=
  run_buildArr (pl := [(0, vB x)]) Tryd.underlying72 Tryd.sz5 Tryd.zv72 rfl (by kernel_rfl)
theorem none_w {n : Nat} {i : Int} : decide (((wrF (newF n) n i (one64 7)).1 : Int) = 0) = decide (0 ≤ i ∧ i < (n : Int)) := by
  refine decide_eq_decide.2 ?_
  by_cases h : i < 0 ∨ (n : Int) ≤ i
  · rw [wrF, if_pos h]
    refine ⟨fun h1 => ?_, fun h1 => ?_⟩
    · cases h1
    · omega
  · obtain ⟨q, rfl⟩ : ∃ q : Nat, i = (q : Int) := ⟨i.toNat, by omega⟩
    rw [wrF_free (D := newF n) (show q < n by omega) rfl rfl]
    exact ⟨fun _ => by omega, fun _ => rfl⟩
theorem none_r {n : Nat} {i : Int} (hn : 4 ≤ n) : decide (rdF (wrF (newF n) n i (one64 7)).2 n i = one64 7) = decide (((wrF (newF n) n i (one64 7)).1 : Int) = 0) := by
  refine decide_eq_decide.2 ?_
  have hne : ¬ zero64 = one64 7 := by decide
  by_cases h : i < 0 ∨ (n : Int) ≤ i
  · rw [wrF, if_pos h, rdF, if_pos h]
    exact ⟨fun h1 => absurd h1 hne, fun h1 => by cases h1⟩
  · obtain ⟨q, rfl⟩ : ∃ q : Nat, i = (q : Int) := ⟨i.toNat, by omega⟩
    rw [wrF_free (D := newF n) (show q < n by omega) rfl rfl, rdF_in (by omega)]
    refine ⟨fun _ => rfl, fun _ => ?_⟩
    have hl : (newF n).l.length = 64 * n := List.length_replicate
    show blkF (putL (newF n).l (64 * q) (one64 7)) q = one64 7
    apply List.ext_getElem?
    intro j
    rw [blkF, List.getElem?_take]
    split
    · rw [List.getElem?_drop, putL_get (by rw [hl]; show 64 * q + 64 ≤ 64 * n; omega), if_pos ⟨by omega, by show 64 * q + j < 64 * q + 64; omega⟩]
      congr 1; omega
    · rw [List.getElem?_eq_none (by show 64 ≤ j; omega)]


theorem vnone_good {n : Nat} {i : Int} {w0 : World} (hG : Glob w0) (hn4 : 4 ≤ n) (hn1 : n ≤ 1024) :
    Calls Tryd.prog 13 #[vI n, .int .i64 i] w0 fun e w' => e = .returned (.bool true) ∧ Ext w0 w' := by
  refine calls_start 120 Tryd.func13 rfl Tryd.ntmps13 rfl fun a hF => ?_
  have hS := St.refl w0
  refine wp_seq_k fun Kq1 hKq1 => ?_
  -- region 0 (law.go:241)
  refine wp_region_lit ?_
  refine wpList_stp (stp_gv hF (wanted_none rfl) rfl rfl (gv_assign rfl (ev_const _ _)) fun a hF => ?_)
  refine wpList_nil ?_
  refine then_normal (hKq1 _ _ ?_)
  refine wp_seq_k fun Kq2 hKq2 => ?_
  refine wp_seq_k fun Kq3 hKq3 => ?_
  -- region 1 (law.go:242)
  refine wp_region_lit ?_
  refine wpList_stp (stp_call hF (wanted_none rfl) rfl rfl Tryd.ok27 rfl Evs.nil (fit18_ok hG) fun e w h => ?_)
  obtain ⟨rfl, hx⟩ := h
  refine ⟨_, rfl, fun a hF => ?_⟩
  replace hS := hS.ext hx
  clear hx
  refine wpList_stp (stp_gv hF (wanted_none rfl) rfl rfl (gv_not rfl (hF.t rfl)) fun a hF => ?_)
  refine wpList_nil ?_
  refine then_normal (hKq3 _ _ ?_)
  refine wp_cond_false (hF.t rfl) ?_
  refine wp_skip ?_
  refine then_normal (hKq2 _ _ ?_)
  refine wp_seq_k fun Kq4 hKq4 => ?_
  -- region 3 (law.go:245)
  refine wp_region_lit ?_
  refine wpList_stp (stp_gv hF (wanted_none rfl) rfl rfl (gv_assign rfl (ev_const _ _)) fun a hF => ?_)
  refine wpList_nil ?_
  refine then_normal (hKq4 _ _ ?_)
  refine wp_seq_k fun Kq5 hKq5 => ?_
  -- region 4 (law.go:246)
  refine wp_region_lit ?_
  refine wpList_stp (stp_gv hF (wanted_none rfl) rfl rfl (gv_assign rfl (ev_const _ _)) fun a hF => ?_)
  refine wpList_nil ?_
  refine then_normal (hKq5 _ _ ?_)
  refine wp_seq_k fun Kq6 hKq6 => ?_
  -- region 5 (law.go:247)
  refine wp_region_lit ?_
  refine wpList_stp (stp_gv hF (wanted_none rfl) rfl rfl (gv_move rfl (hF.t rfl)) fun a hF => ?_)
  refine wpList_stp (stp_gv hF (wanted_none rfl) rfl rfl (gv_move rfl (hF.t rfl)) fun a hF => ?_)
  refine wpList_stp (stp_gv hF (wanted_none rfl) rfl rfl (gv_move rfl (hF.t rfl)) fun a hF => ?_)
  refine wpList_stp (stp_call hF (wanted_none rfl) rfl rfl Tryd.ok39 rfl (Evs.cons (hF.t rfl) (Evs.cons (hF.t rfl) (Evs.cons (hF.t rfl) Evs.nil))) (fuel_nil) fun e w h => ?_)
  obtain ⟨rfl, hx⟩ := h
  refine ⟨_, rfl, fun a hF => ?_⟩
  replace hS := hS.ext hx
  clear hx
  refine wpList_nil ?_
  refine then_normal (hKq6 _ _ ?_)
  refine wp_seq_k fun Kq7 hKq7 => ?_
  -- region 6 (law.go:248)
  refine wp_region_lit ?_
  refine wpList_stp (stp_gv hF (wanted_none rfl) rfl rfl (gv_move rfl (hF.t rfl)) fun a hF => ?_)
  refine wpList_stp (stp_call hF (wanted_none rfl) rfl rfl Tryd.ok29 rfl (Evs.cons (hF.t rfl) Evs.nil) (open_nil) fun e w h => ?_)
  obtain ⟨rfl, hx⟩ := h
  refine ⟨_, rfl, fun a hF => ?_⟩
  replace hS := hS.ext hx
  clear hx
  refine wpList_stp (stp_gv hF (wanted_none rfl) rfl rfl (gv_move rfl (hF.t rfl)) fun a hF => ?_)
  refine wpList_stp (stp_gv hF (wanted_none rfl) rfl rfl (gv_extract rfl (hF.t rfl) rfl) fun a hF => ?_)
  refine wpList_stp (stp_gv hF (wanted_none rfl) rfl rfl (gv_extract rfl (hF.t rfl) rfl) fun a hF => ?_)
  refine wpList_stp (stp_gv hF (wanted_none rfl) rfl rfl (gv_extract rfl (hF.t rfl) rfl) fun a hF => ?_)
  refine wpList_stp (stp_alloc hF (wanted_none rfl) rfl rfl rfl Tryd.zv63 rfl hS fun r8 a w hF hS => ?_)
  refine wpList_stp (stp_gv hF (wanted_none rfl) rfl rfl (gv_assign rfl (hF.t rfl)) fun a hF => ?_)
  refine wpList_stp (stp_storeAll hF (wanted_none rfl) rfl rfl (Tryd.sz63.trans (congrArg some (rfl))) (hF.t rfl) (hF.t rfl) ((by intro u hu; simp at hu; rcases hu with rfl | rfl | rfl <;> rfl)) hS (k := 0) rfl (rfl) fun w hS => ?_)
  refine wpList_stp (stp_gv hF (wanted_none rfl) rfl rfl (gv_assign rfl (hF.t rfl)) fun a hF => ?_)
  refine wpList_nil ?_
  refine then_normal (hKq7 _ _ ?_)
  refine wp_seq_k fun Kq8 hKq8 => ?_
  refine wp_seq_k fun Kq9 hKq9 => ?_
  -- region 7 (law.go:249)
  refine wp_region_lit ?_
  refine wpList_stp (stp_gv hF (wanted_none rfl) rfl rfl (gv_move rfl (hF.t rfl)) fun a hF => ?_)
  refine wpList_stp (stp_gv hF (wanted_none rfl) rfl rfl (gv_neqNil rfl Tryd.underlying68 (hF.t rfl) (ev_const _ _)) fun a hF => ?_)
  refine wpList_stp (stp_gv hF (wanted_none rfl) rfl rfl (gv_move rfl (hF.t rfl)) fun a hF => ?_)
  refine wpList_stp (stp_gv hF (wanted_of hF rfl rfl (rfl)) rfl rfl (gv_loadAll rfl Tryd.underlying63 rfl (Tryd.sz63.trans (congrArg some (rfl))) (hF.t rfl) hS (k := 0) rfl) fun a hF => ?_)
  refine wpList_stp (stp_gv hF (wanted_of hF rfl rfl (rfl)) rfl rfl (gv_build rfl (EvP.map EvP.nil) (build_rec0 _)) fun a hF => ?_)
  refine wpList_stp (stp_gv hF (wanted_of hF rfl rfl (rfl)) rfl rfl (gv_recNeq rec3 rfl (hF.t rfl) (hF.t rfl)) fun a hF => ?_)
  rw [decide_eq_false (show ¬ ¬ (([] : List UInt8) = [] ∧ ([] : List UInt8) = [] ∧ false = false) from fun h => h ⟨rfl, rfl, rfl⟩)] at hF
  refine wpList_stp (stp_gv hF (wanted_none rfl) rfl rfl (gv_pickF rfl (hF.t rfl) (hF.t rfl)) fun a hF => ?_)
  refine wpList_stp (stp_gv hF (wanted_none rfl) rfl rfl (gv_move rfl (hF.t rfl)) fun a hF => ?_)
  refine wpList_stp (stp_gv hF (wanted_of hF rfl rfl (rfl)) rfl rfl (gv_move rfl (hF.t rfl)) fun a hF => ?_)
  refine wpList_stp (stp_gv hF (wanted_of hF rfl rfl (rfl)) rfl rfl (gv_neqF rfl (hF.t rfl) (ev_const _ _) (by decide)) fun a hF => ?_)
  refine wpList_stp (stp_gv hF (wanted_none rfl) rfl rfl (gv_pickF rfl (hF.t rfl) (hF.t rfl)) fun a hF => ?_)
  refine wpList_stp (stp_gv hF (wanted_none rfl) rfl rfl (gv_move rfl (hF.t rfl)) fun a hF => ?_)
  refine wpList_stp (stp_gv hF (wanted_of hF rfl rfl (rfl)) rfl rfl (gv_move rfl (hF.t rfl)) fun a hF => ?_)
  refine wpList_stp (stp_call hF (wanted_of hF rfl rfl (rfl)) rfl rfl Tryd.ok42 rfl (Evs.cons (hF.t rfl) Evs.nil) (blocks_nil) fun e w h => ?_)
  obtain ⟨rfl, hx⟩ := h
  refine ⟨_, rfl, fun a hF => ?_⟩
  replace hS := hS.ext hx
  clear hx
  refine wpList_stp (stp_gv hF (wanted_of hF rfl rfl (rfl)) rfl rfl (gv_neqF rfl (hF.t rfl) (ev_const _ _) (by decide)) fun a hF => ?_)
  refine wpList_stp (stp_gv hF (wanted_none rfl) rfl rfl (gv_pickF rfl (hF.t rfl) (hF.t rfl)) fun a hF => ?_)
  refine wpList_stp (stp_gv hF (wanted_none rfl) rfl rfl (gv_move rfl (hF.t rfl)) fun a hF => ?_)
  refine wpList_stp (stp_gv hF (wanted_of hF rfl rfl (rfl)) rfl rfl (gv_move rfl (hF.t rfl)) fun a hF => ?_)
  refine wpList_stp (stp_gv hF (wanted_of hF rfl rfl (rfl)) rfl rfl (gv_move rfl (hF.t rfl)) fun a hF => ?_)
  refine wpList_stp (stp_call hF (wanted_of hF rfl rfl (rfl)) rfl rfl Tryd.ok31 rfl (Evs.cons (hF.t rfl) (Evs.cons (hF.t rfl) Evs.nil)) (read_nil) fun e w h => ?_)
  obtain ⟨rfl, hx⟩ := h
  refine ⟨_, rfl, fun a hF => ?_⟩
  replace hS := hS.ext hx
  clear hx
  refine wpList_stp (stp_gv hF (wanted_of hF rfl rfl (rfl)) rfl rfl (gv_build rfl (EvP.map EvP.nil) (build_z64 _)) fun a hF => ?_)
  refine wpList_stp (stp_gv hF (wanted_of hF rfl rfl (rfl)) rfl rfl (gv_aggNeq rfl Tryd.underlying72 Tryd.underlying5 Tryd.sz5 (by kernel_rfl) (hF.t rfl) (hF.t rfl) rfl rfl) fun a hF => ?_)
  rw [decide_eq_false (show ¬ (zero64 ≠ zero64) from fun h => h rfl)] at hF
  refine wpList_stp (stp_gv hF (wanted_none rfl) rfl rfl (gv_pickF rfl (hF.t rfl) (hF.t rfl)) fun a hF => ?_)
  refine wpList_stp (stp_gv hF (wanted_none rfl) rfl rfl (gv_move rfl (hF.t rfl)) fun a hF => ?_)
  refine wpList_stp (stp_gv hF (wanted_of hF rfl rfl (rfl)) rfl rfl (gv_move rfl (hF.t rfl)) fun a hF => ?_)
  refine wpList_stp (stp_gv hF (wanted_of hF rfl rfl (rfl)) rfl rfl (gv_move rfl (hF.t rfl)) fun a hF => ?_)
  refine wpList_stp (stp_gv hF (wanted_of hF rfl rfl (rfl)) rfl rfl (gv_build rfl (EvP.map (EvP.cons (ev_const _ _) EvP.nil)) (build_one 1 _)) fun a hF => ?_)
  refine wpList_stp (stp_call hF (wanted_of hF rfl rfl (rfl)) rfl rfl Tryd.ok32 rfl (Evs.cons (hF.t rfl) (Evs.cons (hF.t rfl) (Evs.cons (hF.t rfl) Evs.nil))) (dwrite_nil (l := one64 1)) fun e w h => ?_)
  obtain ⟨rfl, hx⟩ := h
  refine ⟨_, rfl, fun a hF => ?_⟩
  replace hS := hS.ext hx
  clear hx
  refine wpList_stp (stp_gv hF (wanted_of hF rfl rfl (rfl)) rfl rfl (gv_neqF rfl (hF.t rfl) (ev_const _ _) (by decide)) fun a hF => ?_)
  refine wpList_stp (stp_gv hF (wanted_none rfl) rfl rfl (gv_pickF rfl (hF.t rfl) (hF.t rfl)) fun a hF => ?_)
  refine wpList_stp (stp_gv hF (wanted_none rfl) rfl rfl (gv_move rfl (hF.t rfl)) fun a hF => ?_)
  refine wpList_stp (stp_gv hF (wanted_of hF rfl rfl (rfl)) rfl rfl (gv_move rfl (hF.t rfl)) fun a hF => ?_)
  refine wpList_stp (stp_call hF (wanted_of hF rfl rfl (rfl)) rfl rfl Tryd.ok41 rfl (Evs.cons (hF.t rfl) Evs.nil) (dead_nil) fun e w h => ?_)
  obtain ⟨rfl, hx⟩ := h
  refine ⟨_, rfl, fun a hF => ?_⟩
  replace hS := hS.ext hx
  clear hx
  refine wpList_stp (stp_gv hF (wanted_none rfl) rfl rfl (gv_pickF rfl (hF.t rfl) (hF.t rfl)) fun a hF => ?_)
  refine wpList_stp (stp_gv hF (wanted_none rfl) rfl rfl (gv_move rfl (hF.t rfl)) fun a hF => ?_)
  refine wpList_stp (stp_gv hF (wanted_of hF rfl rfl (rfl)) rfl rfl (gv_move rfl (hF.t rfl)) fun a hF => ?_)
  refine wpList_stp (stp_call hF (wanted_of hF rfl rfl (rfl)) rfl rfl Tryd.ok40 rfl (Evs.cons (hF.t rfl) Evs.nil) (again_nil) fun e w h => ?_)
  obtain ⟨rfl, hx⟩ := h
  refine ⟨_, rfl, fun a hF => ?_⟩
  replace hS := hS.ext hx
  clear hx
  refine wpList_stp (stp_gv hF (wanted_of hF rfl rfl (rfl)) rfl rfl (gv_neqNil rfl Tryd.underlying65 (hF.t rfl) (ev_const _ _)) fun a hF => ?_)
  refine wpList_stp (stp_gv hF (wanted_none rfl) rfl rfl (gv_pickF rfl (hF.t rfl) (hF.t rfl)) fun a hF => ?_)
  refine wpList_stp (stp_gv hF (wanted_none rfl) rfl rfl (gv_move rfl (hF.t rfl)) fun a hF => ?_)
  refine wpList_stp (stp_gv hF (wanted_of hF rfl rfl (rfl)) rfl rfl (gv_move rfl (hF.t rfl)) fun a hF => ?_)
  refine wpList_stp (stp_gv hF (wanted_of hF rfl rfl (rfl)) rfl rfl (gv_loadAll rfl Tryd.underlying63 rfl (Tryd.sz63.trans (congrArg some (rfl))) (hF.t rfl) hS (k := 0) rfl) fun a hF => ?_)
  refine wpList_stp (stp_call hF (wanted_of hF rfl rfl (rfl)) rfl rfl Tryd.ok30 rfl (Evs.cons (hF.t rfl) (Evs.cons (hF.t rfl) Evs.nil)) (save_nil) fun e w h => ?_)
  obtain ⟨rfl, hx⟩ := h
  refine ⟨_, rfl, fun a hF => ?_⟩
  replace hS := hS.ext hx
  clear hx
  refine wpList_stp (stp_gv hF (wanted_of hF rfl rfl (rfl)) rfl rfl (gv_neqF rfl (hF.t rfl) (ev_const _ _) (by decide)) fun a hF => ?_)
  refine wpList_stp (stp_gv hF (wanted_none rfl) rfl rfl (gv_pickF rfl (hF.t rfl) (hF.t rfl)) fun a hF => ?_)
  refine wpList_nil ?_
  refine then_normal (hKq9 _ _ ?_)
  refine wp_cond_false (hF.t rfl) ?_
  refine wp_skip ?_
  refine then_normal (hKq8 _ _ ?_)
  refine wp_seq_k fun Kq10 hKq10 => ?_
  -- region 9 (law.go:252)
  refine wp_region_lit ?_
  refine wpList_stp (stp_gv hF (wanted_none rfl) rfl rfl (gv_move rfl (hF.t rfl)) fun a hF => ?_)
  refine wpList_stp (stp_call hF (wanted_none rfl) rfl rfl Tryd.ok28 rfl (Evs.cons (hF.t rfl) Evs.nil) (new_call (n := n) (by omega) (by omega)) fun e w h => ?_)
  obtain ⟨d, p, rfl, hN⟩ := h
  refine ⟨_, rfl, fun a hF => ?_⟩
  replace hS := hS.join hN (nw_cons rfl (nw_cons rfl nw_nil))
  simp only [List.cons_append, List.nil_append] at hS
  clear hN
  refine wpList_stp (stp_gv hF (wanted_none rfl) rfl rfl (gv_move rfl (hF.t rfl)) fun a hF => ?_)
  refine wpList_stp (stp_gv hF (wanted_none rfl) rfl rfl (gv_extract rfl (hF.t rfl) rfl) fun a hF => ?_)
  refine wpList_stp (stp_gv hF (wanted_none rfl) rfl rfl (gv_extract rfl (hF.t rfl) rfl) fun a hF => ?_)
  refine wpList_stp (stp_gv hF (wanted_none rfl) rfl rfl (gv_assign rfl (hF.t rfl)) fun a hF => ?_)
  refine wpList_stp (stp_gv hF (wanted_none rfl) rfl rfl (gv_assign rfl (hF.t rfl)) fun a hF => ?_)
  refine wpList_nil ?_
  refine then_normal (hKq10 _ _ ?_)
  refine wp_seq_k fun Kq11 hKq11 => ?_
  refine wp_seq_k fun Kq12 hKq12 => ?_
  -- region 10 (law.go:253)
  refine wp_region_lit ?_
  refine wpList_stp (stp_gv hF (wanted_none rfl) rfl rfl (gv_move rfl (hF.t rfl)) fun a hF => ?_)
  refine wpList_stp (stp_gv hF (wanted_none rfl) rfl rfl (gv_lssF rfl (hF.t rfl) (ev_const _ _) (by omega)) fun a hF => ?_)
  refine wpList_stp (stp_gv hF (wanted_none rfl) rfl rfl (gv_move rfl (hF.t rfl)) fun a hF => ?_)
  refine wpList_stp (stp_gv hF (wanted_of hF rfl rfl (rfl)) rfl rfl (gv_move rfl (hF.t rfl)) fun a hF => ?_)
  refine wpList_stp (stp_gv hF (wanted_of hF rfl rfl (rfl)) rfl rfl (gv_gtrF rfl (hF.t rfl) (ev_const _ _) (by omega)) fun a hF => ?_)
  refine wpList_stp (stp_gv hF (wanted_none rfl) rfl rfl (gv_pickF rfl (hF.t rfl) (hF.t rfl)) fun a hF => ?_)
  refine wpList_nil ?_
  refine then_normal (hKq12 _ _ ?_)
  refine wp_cond_false (hF.t rfl) ?_
  refine wp_skip ?_
  refine then_normal (hKq11 _ _ ?_)
  refine wp_seq_k fun Kq13 hKq13 => ?_
  -- region 12 (law.go:256)
  refine wp_region_lit ?_
  refine wpList_stp (stp_gv hF (wanted_none rfl) rfl rfl (gv_move rfl (hF.t rfl)) fun a hF => ?_)
  refine wpList_stp (stp_gv hF (wanted_none rfl) rfl rfl (gv_move rfl (hF.t rfl)) fun a hF => ?_)
  refine wpList_stp (stp_gv hF (wanted_none rfl) rfl rfl (gv_build rfl (EvP.map (EvP.cons (ev_const _ _) EvP.nil)) (build_one 7 _)) fun a hF => ?_)
  refine wpList_stp (stp_call hF (wanted_none rfl) rfl rfl Tryd.ok32 rfl (Evs.cons (hF.t rfl) (Evs.cons (hF.t rfl) (Evs.cons (hF.t rfl) Evs.nil))) (dwrite_ok (D := newF n) (xl := one64 7) (nw_cons rfl nw_nil) hS (new_ok hn4 hn1) rfl) fun e w h => ?_)
  obtain ⟨rfl, hS⟩ := h
  refine ⟨_, rfl, fun a hF => ?_⟩
  refine wpList_stp (stp_gv hF (wanted_none rfl) rfl rfl (gv_eql rfl (hF.t rfl) (ev_const _ _)) fun a hF => ?_)
  refine wpList_stp (stp_gv hF (wanted_none rfl) rfl rfl (gv_assign rfl (hF.t rfl)) fun a hF => ?_)
  refine wpList_nil ?_
  refine then_normal (hKq13 _ _ ?_)
  refine wp_seq_k fun Kq14 hKq14 => ?_
  -- region 13 (law.go:257)
  refine wp_region_lit ?_
  refine wpList_stp (stp_gv hF (wanted_none rfl) rfl rfl (gv_move rfl (hF.t rfl)) fun a hF => ?_)
  refine wpList_stp (stp_gv hF (wanted_none rfl) rfl rfl (gv_eqlT rfl (hF.t rfl) (ev_const _ _) (rfl)) fun a hF => ?_)
  refine wpList_stp (stp_gv hF (wanted_none rfl) rfl rfl (gv_move rfl (hF.t rfl)) fun a hF => ?_)
  refine wpList_stp (stp_gv hF (wanted_of hF rfl rfl (rfl)) rfl rfl (gv_move rfl (hF.t rfl)) fun a hF => ?_)
  refine wpList_stp (stp_call hF (wanted_of hF rfl rfl (rfl)) rfl rfl Tryd.ok42 rfl (Evs.cons (hF.t rfl) Evs.nil) (blocks_ok (hS.cell (k := 0) (i := 0) rfl rfl)) fun e w h => ?_)
  obtain ⟨rfl, hx⟩ := h
  refine ⟨_, rfl, fun a hF => ?_⟩
  replace hS := hS.ext hx
  clear hx
  refine wpList_stp (stp_gv hF (wanted_of hF rfl rfl (rfl)) rfl rfl (gv_move rfl (hF.t rfl)) fun a hF => ?_)
  refine wpList_stp (stp_gv hF (wanted_of hF rfl rfl (rfl)) rfl rfl (gv_eqlT rfl (hF.t rfl) (hF.t rfl) (rfl)) fun a hF => ?_)
  refine wpList_stp (stp_gv hF (wanted_none rfl) rfl rfl (gv_pickT rfl (hF.t rfl) (hF.t rfl)) fun a hF => ?_)
  refine wpList_stp (stp_gv hF (wanted_none rfl) rfl rfl (gv_move rfl (hF.t rfl)) fun a hF => ?_)
  refine wpList_stp (stp_gv hF (wanted_of hF rfl rfl (rfl)) rfl rfl (gv_move rfl (hF.t rfl)) fun a hF => ?_)
  refine wpList_stp (stp_gv hF (wanted_of hF rfl rfl (rfl)) rfl rfl (gv_move rfl (hF.t rfl)) fun a hF => ?_)
  refine wpList_stp (stp_gv hF (wanted_of hF rfl rfl (rfl)) rfl rfl (gv_geq rfl (hF.t rfl) (ev_const _ _)) fun a hF => ?_)
  refine wpList_stp (stp_gv hF (wanted_of hF rfl rfl (rfl)) rfl rfl (gv_move rfl (hF.t rfl)) fun a hF => ?_)
  refine wpList_stp (stp_gvG hF rfl rfl rfl rfl rfl (fun hg => gv_move rfl (hF.t rfl)) fun a hF => ?_)
  refine wpList_stp (stp_gvG hF rfl rfl rfl rfl rfl (fun hg => gv_move rfl (hF.t rfl)) fun a hF => ?_)
  refine wpList_stp (stp_gvG hF rfl rfl rfl rfl rfl (fun hg => gv_lss rfl ((hF.t rfl).trans (if_pos hg)) ((hF.t rfl).trans (if_pos hg))) fun a hF => ?_)
  refine wpList_stp (stp_gv hF (wanted_of hF rfl rfl (rfl)) rfl rfl (gv_pickAnd rfl (hF.t rfl) (hF.t rfl) (ev_const _ _)) fun a hF => ?_)
  refine wpList_stp (stp_gv hF (wanted_of hF rfl rfl (rfl)) rfl rfl (gv_boolEql rfl Tryd.underlying4 (hF.t rfl) (hF.t rfl)) fun a hF => ?_)
  rw [show (decide (decide (((wrF (newF n) n i (one64 7)).1 : Int) = 0) = decide (0 ≤ i ∧ i < (n : Int)))) = true from decide_eq_true (none_w (i := i))] at hF
  refine wpList_stp (stp_gv hF (wanted_none rfl) rfl rfl (gv_pickT rfl (hF.t rfl) (hF.t rfl)) fun a hF => ?_)
  refine wpList_stp (stp_gv hF (wanted_none rfl) rfl rfl (gv_move rfl (hF.t rfl)) fun a hF => ?_)
  refine wpList_stp (stp_gv hF (wanted_of hF rfl rfl (rfl)) rfl rfl (gv_move rfl (hF.t rfl)) fun a hF => ?_)
  refine wpList_stp (stp_gv hF (wanted_of hF rfl rfl (rfl)) rfl rfl (gv_move rfl (hF.t rfl)) fun a hF => ?_)
  refine wpList_stp (stp_call hF (wanted_of hF rfl rfl (rfl)) rfl rfl Tryd.ok31 rfl (Evs.cons (hF.t rfl) (Evs.cons (hF.t rfl) Evs.nil)) (read_ok (dskW_of (k := 0) (k' := 1) hS rfl rfl) (wrF_ok (new_ok hn4 hn1) (x := one64 7) rfl).len) fun e w h => ?_)
  obtain ⟨rfl, hx⟩ := h
  refine ⟨_, rfl, fun a hF => ?_⟩
  replace hS := hS.ext hx
  clear hx
  refine wpList_stp (stp_gv hF (wanted_of hF rfl rfl (rfl)) rfl rfl (gv_build rfl (EvP.map (EvP.cons (ev_const _ _) EvP.nil)) (build_one 7 _)) fun a hF => ?_)
  refine wpList_stp (stp_gv hF (wanted_of hF rfl rfl (rfl)) rfl rfl (gv_aggEql rfl Tryd.underlying72 Tryd.underlying5 Tryd.sz5 (by kernel_rfl) (hF.t rfl) (hF.t rfl) (rdF_len (wrF_ok (new_ok hn4 hn1) (x := one64 7) rfl).len _) rfl) fun a hF => ?_)
  refine wpList_stp (stp_gv hF (wanted_of hF rfl rfl (rfl)) rfl rfl (gv_move rfl (hF.t rfl)) fun a hF => ?_)
  refine wpList_stp (stp_gv hF (wanted_of hF rfl rfl (rfl)) rfl rfl (gv_boolEql rfl Tryd.underlying4 (hF.t rfl) (hF.t rfl)) fun a hF => ?_)
  rw [show (decide (decide (rdF (wrF (newF n) n i (one64 7)).2 n i = one64 7) = decide (((wrF (newF n) n i (one64 7)).1 : Int) = 0))) = true from decide_eq_true (none_r hn4 (i := i))] at hF
  refine wpList_stp (stp_gv hF (wanted_none rfl) rfl rfl (gv_pickT rfl (hF.t rfl) (hF.t rfl)) fun a hF => ?_)
  refine wpList_stp (stp_gv hF (wanted_none rfl) rfl rfl (gv_assign rfl (hF.t rfl)) fun a hF => ?_)
  refine wpList_nil ?_
  refine then_normal (hKq14 _ _ ?_)
  refine wp_ret ?_
  refine ret1 (fn := Tryd.f13) (t := 4) hF rfl rfl ?_
  exact ⟨rfl, hS.toExt (nw_cons rfl (nw_cons rfl (nw_cons rfl nw_nil)))⟩

theorem vnone_bad {j i : Int} {w0 : World} (hG : Glob w0) (hj : j < 4 ∨ 1024 < j) :
    Calls Tryd.prog 13 #[.int .i64 j, .int .i64 i] w0 fun e w' => e = .returned (.bool true) ∧ Ext w0 w' := by
  refine calls_start 120 Tryd.func13 rfl Tryd.ntmps13 rfl fun a hF => ?_
  have hS := St.refl w0
  refine wp_seq_k fun Kq1 hKq1 => ?_
  -- region 0 (law.go:241)
  refine wp_region_lit ?_
  refine wpList_stp (stp_gv hF (wanted_none rfl) rfl rfl (gv_assign rfl (ev_const _ _)) fun a hF => ?_)
  refine wpList_nil ?_
  refine then_normal (hKq1 _ _ ?_)
  refine wp_seq_k fun Kq2 hKq2 => ?_
  refine wp_seq_k fun Kq3 hKq3 => ?_
  -- region 1 (law.go:242)
  refine wp_region_lit ?_
  refine wpList_stp (stp_call hF (wanted_none rfl) rfl rfl Tryd.ok27 rfl Evs.nil (fit18_ok hG) fun e w h => ?_)
  obtain ⟨rfl, hx⟩ := h
  refine ⟨_, rfl, fun a hF => ?_⟩
  replace hS := hS.ext hx
  clear hx
  refine wpList_stp (stp_gv hF (wanted_none rfl) rfl rfl (gv_not rfl (hF.t rfl)) fun a hF => ?_)
  refine wpList_nil ?_
  refine then_normal (hKq3 _ _ ?_)
  refine wp_cond_false (hF.t rfl) ?_
  refine wp_skip ?_
  refine then_normal (hKq2 _ _ ?_)
  refine wp_seq_k fun Kq4 hKq4 => ?_
  -- region 3 (law.go:245)
  refine wp_region_lit ?_
  refine wpList_stp (stp_gv hF (wanted_none rfl) rfl rfl (gv_assign rfl (ev_const _ _)) fun a hF => ?_)
  refine wpList_nil ?_
  refine then_normal (hKq4 _ _ ?_)
  refine wp_seq_k fun Kq5 hKq5 => ?_
  -- region 4 (law.go:246)
  refine wp_region_lit ?_
  refine wpList_stp (stp_gv hF (wanted_none rfl) rfl rfl (gv_assign rfl (ev_const _ _)) fun a hF => ?_)
  refine wpList_nil ?_
  refine then_normal (hKq5 _ _ ?_)
  refine wp_seq_k fun Kq6 hKq6 => ?_
  -- region 5 (law.go:247)
  refine wp_region_lit ?_
  refine wpList_stp (stp_gv hF (wanted_none rfl) rfl rfl (gv_move rfl (hF.t rfl)) fun a hF => ?_)
  refine wpList_stp (stp_gv hF (wanted_none rfl) rfl rfl (gv_move rfl (hF.t rfl)) fun a hF => ?_)
  refine wpList_stp (stp_gv hF (wanted_none rfl) rfl rfl (gv_move rfl (hF.t rfl)) fun a hF => ?_)
  refine wpList_stp (stp_call hF (wanted_none rfl) rfl rfl Tryd.ok39 rfl (Evs.cons (hF.t rfl) (Evs.cons (hF.t rfl) (Evs.cons (hF.t rfl) Evs.nil))) (fuel_nil) fun e w h => ?_)
  obtain ⟨rfl, hx⟩ := h
  refine ⟨_, rfl, fun a hF => ?_⟩
  replace hS := hS.ext hx
  clear hx
  refine wpList_nil ?_
  refine then_normal (hKq6 _ _ ?_)
  refine wp_seq_k fun Kq7 hKq7 => ?_
  -- region 6 (law.go:248)
  refine wp_region_lit ?_
  refine wpList_stp (stp_gv hF (wanted_none rfl) rfl rfl (gv_move rfl (hF.t rfl)) fun a hF => ?_)
  refine wpList_stp (stp_call hF (wanted_none rfl) rfl rfl Tryd.ok29 rfl (Evs.cons (hF.t rfl) Evs.nil) (open_nil) fun e w h => ?_)
  obtain ⟨rfl, hx⟩ := h
  refine ⟨_, rfl, fun a hF => ?_⟩
  replace hS := hS.ext hx
  clear hx
  refine wpList_stp (stp_gv hF (wanted_none rfl) rfl rfl (gv_move rfl (hF.t rfl)) fun a hF => ?_)
  refine wpList_stp (stp_gv hF (wanted_none rfl) rfl rfl (gv_extract rfl (hF.t rfl) rfl) fun a hF => ?_)
  refine wpList_stp (stp_gv hF (wanted_none rfl) rfl rfl (gv_extract rfl (hF.t rfl) rfl) fun a hF => ?_)
  refine wpList_stp (stp_gv hF (wanted_none rfl) rfl rfl (gv_extract rfl (hF.t rfl) rfl) fun a hF => ?_)
  refine wpList_stp (stp_alloc hF (wanted_none rfl) rfl rfl rfl Tryd.zv63 rfl hS fun r8 a w hF hS => ?_)
  refine wpList_stp (stp_gv hF (wanted_none rfl) rfl rfl (gv_assign rfl (hF.t rfl)) fun a hF => ?_)
  refine wpList_stp (stp_storeAll hF (wanted_none rfl) rfl rfl (Tryd.sz63.trans (congrArg some (rfl))) (hF.t rfl) (hF.t rfl) ((by intro u hu; simp at hu; rcases hu with rfl | rfl | rfl <;> rfl)) hS (k := 0) rfl (rfl) fun w hS => ?_)
  refine wpList_stp (stp_gv hF (wanted_none rfl) rfl rfl (gv_assign rfl (hF.t rfl)) fun a hF => ?_)
  refine wpList_nil ?_
  refine then_normal (hKq7 _ _ ?_)
  refine wp_seq_k fun Kq8 hKq8 => ?_
  refine wp_seq_k fun Kq9 hKq9 => ?_
  -- region 7 (law.go:249)
  refine wp_region_lit ?_
  refine wpList_stp (stp_gv hF (wanted_none rfl) rfl rfl (gv_move rfl (hF.t rfl)) fun a hF => ?_)
  refine wpList_stp (stp_gv hF (wanted_none rfl) rfl rfl (gv_neqNil rfl Tryd.underlying68 (hF.t rfl) (ev_const _ _)) fun a hF => ?_)
  refine wpList_stp (stp_gv hF (wanted_none rfl) rfl rfl (gv_move rfl (hF.t rfl)) fun a hF => ?_)
  refine wpList_stp (stp_gv hF (wanted_of hF rfl rfl (rfl)) rfl rfl (gv_loadAll rfl Tryd.underlying63 rfl (Tryd.sz63.trans (congrArg some (rfl))) (hF.t rfl) hS (k := 0) rfl) fun a hF => ?_)
  refine wpList_stp (stp_gv hF (wanted_of hF rfl rfl (rfl)) rfl rfl (gv_build rfl (EvP.map EvP.nil) (build_rec0 _)) fun a hF => ?_)
  refine wpList_stp (stp_gv hF (wanted_of hF rfl rfl (rfl)) rfl rfl (gv_recNeq rec3 rfl (hF.t rfl) (hF.t rfl)) fun a hF => ?_)
  rw [decide_eq_false (show ¬ ¬ (([] : List UInt8) = [] ∧ ([] : List UInt8) = [] ∧ false = false) from fun h => h ⟨rfl, rfl, rfl⟩)] at hF
  refine wpList_stp (stp_gv hF (wanted_none rfl) rfl rfl (gv_pickF rfl (hF.t rfl) (hF.t rfl)) fun a hF => ?_)
  refine wpList_stp (stp_gv hF (wanted_none rfl) rfl rfl (gv_move rfl (hF.t rfl)) fun a hF => ?_)
  refine wpList_stp (stp_gv hF (wanted_of hF rfl rfl (rfl)) rfl rfl (gv_move rfl (hF.t rfl)) fun a hF => ?_)
  refine wpList_stp (stp_gv hF (wanted_of hF rfl rfl (rfl)) rfl rfl (gv_neqF rfl (hF.t rfl) (ev_const _ _) (by decide)) fun a hF => ?_)
  refine wpList_stp (stp_gv hF (wanted_none rfl) rfl rfl (gv_pickF rfl (hF.t rfl) (hF.t rfl)) fun a hF => ?_)
  refine wpList_stp (stp_gv hF (wanted_none rfl) rfl rfl (gv_move rfl (hF.t rfl)) fun a hF => ?_)
  refine wpList_stp (stp_gv hF (wanted_of hF rfl rfl (rfl)) rfl rfl (gv_move rfl (hF.t rfl)) fun a hF => ?_)
  refine wpList_stp (stp_call hF (wanted_of hF rfl rfl (rfl)) rfl rfl Tryd.ok42 rfl (Evs.cons (hF.t rfl) Evs.nil) (blocks_nil) fun e w h => ?_)
  obtain ⟨rfl, hx⟩ := h
  refine ⟨_, rfl, fun a hF => ?_⟩
  replace hS := hS.ext hx
  clear hx
  refine wpList_stp (stp_gv hF (wanted_of hF rfl rfl (rfl)) rfl rfl (gv_neqF rfl (hF.t rfl) (ev_const _ _) (by decide)) fun a hF => ?_)
  refine wpList_stp (stp_gv hF (wanted_none rfl) rfl rfl (gv_pickF rfl (hF.t rfl) (hF.t rfl)) fun a hF => ?_)
  refine wpList_stp (stp_gv hF (wanted_none rfl) rfl rfl (gv_move rfl (hF.t rfl)) fun a hF => ?_)
  refine wpList_stp (stp_gv hF (wanted_of hF rfl rfl (rfl)) rfl rfl (gv_move rfl (hF.t rfl)) fun a hF => ?_)
  refine wpList_stp (stp_gv hF (wanted_of hF rfl rfl (rfl)) rfl rfl (gv_move rfl (hF.t rfl)) fun a hF => ?_)
  refine wpList_stp (stp_call hF (wanted_of hF rfl rfl (rfl)) rfl rfl Tryd.ok31 rfl (Evs.cons (hF.t rfl) (Evs.cons (hF.t rfl) Evs.nil)) (read_nil) fun e w h => ?_)
  obtain ⟨rfl, hx⟩ := h
  refine ⟨_, rfl, fun a hF => ?_⟩
  replace hS := hS.ext hx
  clear hx
  refine wpList_stp (stp_gv hF (wanted_of hF rfl rfl (rfl)) rfl rfl (gv_build rfl (EvP.map EvP.nil) (build_z64 _)) fun a hF => ?_)
  refine wpList_stp (stp_gv hF (wanted_of hF rfl rfl (rfl)) rfl rfl (gv_aggNeq rfl Tryd.underlying72 Tryd.underlying5 Tryd.sz5 (by kernel_rfl) (hF.t rfl) (hF.t rfl) rfl rfl) fun a hF => ?_)
  rw [decide_eq_false (show ¬ (zero64 ≠ zero64) from fun h => h rfl)] at hF
  refine wpList_stp (stp_gv hF (wanted_none rfl) rfl rfl (gv_pickF rfl (hF.t rfl) (hF.t rfl)) fun a hF => ?_)
  refine wpList_stp (stp_gv hF (wanted_none rfl) rfl rfl (gv_move rfl (hF.t rfl)) fun a hF => ?_)
  refine wpList_stp (stp_gv hF (wanted_of hF rfl rfl (rfl)) rfl rfl (gv_move rfl (hF.t rfl)) fun a hF => ?_)
  refine wpList_stp (stp_gv hF (wanted_of hF rfl rfl (rfl)) rfl rfl (gv_move rfl (hF.t rfl)) fun a hF => ?_)
  refine wpList_stp (stp_gv hF (wanted_of hF rfl rfl (rfl)) rfl rfl (gv_build rfl (EvP.map (EvP.cons (ev_const _ _) EvP.nil)) (build_one 1 _)) fun a hF => ?_)
  refine wpList_stp (stp_call hF (wanted_of hF rfl rfl (rfl)) rfl rfl Tryd.ok32 rfl (Evs.cons (hF.t rfl) (Evs.cons (hF.t rfl) (Evs.cons (hF.t rfl) Evs.nil))) (dwrite_nil (l := one64 1)) fun e w h => ?_)
  obtain ⟨rfl, hx⟩ := h
  refine ⟨_, rfl, fun a hF => ?_⟩
  replace hS := hS.ext hx
  clear hx
  refine wpList_stp (stp_gv hF (wanted_of hF rfl rfl (rfl)) rfl rfl (gv_neqF rfl (hF.t rfl) (ev_const _ _) (by decide)) fun a hF => ?_)
  refine wpList_stp (stp_gv hF (wanted_none rfl) rfl rfl (gv_pickF rfl (hF.t rfl) (hF.t rfl)) fun a hF => ?_)
  refine wpList_stp (stp_gv hF (wanted_none rfl) rfl rfl (gv_move rfl (hF.t rfl)) fun a hF => ?_)
  refine wpList_stp (stp_gv hF (wanted_of hF rfl rfl (rfl)) rfl rfl (gv_move rfl (hF.t rfl)) fun a hF => ?_)
  refine wpList_stp (stp_call hF (wanted_of hF rfl rfl (rfl)) rfl rfl Tryd.ok41 rfl (Evs.cons (hF.t rfl) Evs.nil) (dead_nil) fun e w h => ?_)
  obtain ⟨rfl, hx⟩ := h
  refine ⟨_, rfl, fun a hF => ?_⟩
  replace hS := hS.ext hx
  clear hx
  refine wpList_stp (stp_gv hF (wanted_none rfl) rfl rfl (gv_pickF rfl (hF.t rfl) (hF.t rfl)) fun a hF => ?_)
  refine wpList_stp (stp_gv hF (wanted_none rfl) rfl rfl (gv_move rfl (hF.t rfl)) fun a hF => ?_)
  refine wpList_stp (stp_gv hF (wanted_of hF rfl rfl (rfl)) rfl rfl (gv_move rfl (hF.t rfl)) fun a hF => ?_)
  refine wpList_stp (stp_call hF (wanted_of hF rfl rfl (rfl)) rfl rfl Tryd.ok40 rfl (Evs.cons (hF.t rfl) Evs.nil) (again_nil) fun e w h => ?_)
  obtain ⟨rfl, hx⟩ := h
  refine ⟨_, rfl, fun a hF => ?_⟩
  replace hS := hS.ext hx
  clear hx
  refine wpList_stp (stp_gv hF (wanted_of hF rfl rfl (rfl)) rfl rfl (gv_neqNil rfl Tryd.underlying65 (hF.t rfl) (ev_const _ _)) fun a hF => ?_)
  refine wpList_stp (stp_gv hF (wanted_none rfl) rfl rfl (gv_pickF rfl (hF.t rfl) (hF.t rfl)) fun a hF => ?_)
  refine wpList_stp (stp_gv hF (wanted_none rfl) rfl rfl (gv_move rfl (hF.t rfl)) fun a hF => ?_)
  refine wpList_stp (stp_gv hF (wanted_of hF rfl rfl (rfl)) rfl rfl (gv_move rfl (hF.t rfl)) fun a hF => ?_)
  refine wpList_stp (stp_gv hF (wanted_of hF rfl rfl (rfl)) rfl rfl (gv_loadAll rfl Tryd.underlying63 rfl (Tryd.sz63.trans (congrArg some (rfl))) (hF.t rfl) hS (k := 0) rfl) fun a hF => ?_)
  refine wpList_stp (stp_call hF (wanted_of hF rfl rfl (rfl)) rfl rfl Tryd.ok30 rfl (Evs.cons (hF.t rfl) (Evs.cons (hF.t rfl) Evs.nil)) (save_nil) fun e w h => ?_)
  obtain ⟨rfl, hx⟩ := h
  refine ⟨_, rfl, fun a hF => ?_⟩
  replace hS := hS.ext hx
  clear hx
  refine wpList_stp (stp_gv hF (wanted_of hF rfl rfl (rfl)) rfl rfl (gv_neqF rfl (hF.t rfl) (ev_const _ _) (by decide)) fun a hF => ?_)
  refine wpList_stp (stp_gv hF (wanted_none rfl) rfl rfl (gv_pickF rfl (hF.t rfl) (hF.t rfl)) fun a hF => ?_)
  refine wpList_nil ?_
  refine then_normal (hKq9 _ _ ?_)
  refine wp_cond_false (hF.t rfl) ?_
  refine wp_skip ?_
  refine then_normal (hKq8 _ _ ?_)
  refine wp_seq_k fun Kq10 hKq10 => ?_
  -- region 9 (law.go:252)
  refine wp_region_lit ?_
  refine wpList_stp (stp_gv hF (wanted_none rfl) rfl rfl (gv_move rfl (hF.t rfl)) fun a hF => ?_)
  refine wpList_stp (stp_call hF (wanted_none rfl) rfl rfl Tryd.ok28 rfl (Evs.cons (hF.t rfl) Evs.nil) (new_bad hj) fun e w h => ?_)
  obtain ⟨rfl, hx⟩ := h
  refine ⟨_, rfl, fun a hF => ?_⟩
  replace hS := hS.ext hx
  clear hx
  refine wpList_stp (stp_gv hF (wanted_none rfl) rfl rfl (gv_move rfl (hF.t rfl)) fun a hF => ?_)
  refine wpList_stp (stp_gv hF (wanted_none rfl) rfl rfl (gv_extract rfl (hF.t rfl) rfl) fun a hF => ?_)
  refine wpList_stp (stp_gv hF (wanted_none rfl) rfl rfl (gv_extract rfl (hF.t rfl) rfl) fun a hF => ?_)
  refine wpList_stp (stp_gv hF (wanted_none rfl) rfl rfl (gv_assign rfl (hF.t rfl)) fun a hF => ?_)
  refine wpList_stp (stp_gv hF (wanted_none rfl) rfl rfl (gv_assign rfl (hF.t rfl)) fun a hF => ?_)
  refine wpList_nil ?_
  refine then_normal (hKq10 _ _ ?_)
  refine wp_seq_k fun Kq11 hKq11 => ?_
  refine wp_seq_k fun Kq12 hKq12 => ?_
  -- region 10 (law.go:253)
  refine wp_region_lit ?_
  refine wpList_stp (stp_gv hF (wanted_none rfl) rfl rfl (gv_move rfl (hF.t rfl)) fun a hF => ?_)
  refine wpList_stp (stp_gv hF (wanted_none rfl) rfl rfl (gv_lss rfl (hF.t rfl) (ev_const _ _)) fun a hF => ?_)
  refine wpList_stp (stp_gv hF (wanted_none rfl) rfl rfl (gv_move rfl (hF.t rfl)) fun a hF => ?_)
  refine wpList_stp (stp_gvG' hF rfl rfl rfl rfl rfl (fun hg => gv_move rfl (hF.t rfl)) fun a hF => ?_)
  refine wpList_stp (stp_gvG' hF rfl rfl rfl rfl rfl (fun hg => gv_gtr rfl ((hF.t rfl).trans (if_neg hg)) (ev_const _ _)) fun a hF => ?_)
  refine wpList_stp (stp_gv hF (wanted_none rfl) rfl rfl (gv_pickOr rfl (hF.t rfl) (ev_const _ _) (hF.t rfl)) fun a hF => ?_)
  refine wpList_nil ?_
  refine then_normal (hKq12 _ _ ?_)
  refine cond_dec (hF.t rfl) (fun h80 => ?_) (fun h80 => ?_)
  ·
    refine wp_seq_k fun Kq13 hKq13 => ?_
    -- region 11 (law.go:254)
    refine wp_region_lit ?_
    refine wpList_stp (stp_gv hF (wanted_none rfl) rfl rfl (gv_move rfl (hF.t rfl)) fun a hF => ?_)
    refine wpList_stp (stp_gv hF (wanted_none rfl) rfl rfl (gv_eqlNil rfl Tryd.underlying65 (hF.t rfl) (ev_const _ _)) fun a hF => ?_)
    refine wpList_stp (stp_gv hF (wanted_none rfl) rfl rfl (gv_move rfl (hF.t rfl)) fun a hF => ?_)
    refine wpList_stp (stp_gv hF (wanted_of hF rfl rfl (rfl)) rfl rfl (gv_move rfl (hF.t rfl)) fun a hF => ?_)
    refine wpList_stp (stp_gv hF (wanted_of hF rfl rfl (rfl)) rfl rfl (gv_eqlT rfl (hF.t rfl) (ev_const _ _) (rfl)) fun a hF => ?_)
    refine wpList_stp (stp_gv hF (wanted_none rfl) rfl rfl (gv_pickT rfl (hF.t rfl) (hF.t rfl)) fun a hF => ?_)
    refine wpList_stp (stp_gv hF (wanted_none rfl) rfl rfl (gv_assign rfl (hF.t rfl)) fun a hF => ?_)
    refine wpList_nil ?_
    refine then_normal (hKq13 _ _ ?_)
    refine wp_ret ?_
    refine then_ret ?_
    refine ret1 (fn := Tryd.f13) (t := 4) hF rfl rfl ?_
    exact ⟨rfl, hS.toExt (nw_cons rfl nw_nil)⟩
  ·
    exact absurd (by omega) h80


theorem vnone_true {j i : Int} {w0 : World} (hG : Glob w0) (hj : -9223372036854775808 ≤ j ∧ j ≤ 9223372036854775807) (hi : -9223372036854775808 ≤ i ∧ i ≤ 9223372036854775807) : Calls Tryd.prog 13 #[.int .i64 j, .int .i64 i] w0 fun e w' => e = .returned (.bool true) ∧ Ext w0 w' := by
  by_cases h : j < 4 ∨ 1024 < j
  · exact vnone_bad hG h
  · obtain ⟨n, rfl⟩ : ∃ n : Nat, j = (n : Int) := ⟨j.toNat, by omega⟩
    exact vnone_good hG (by omega) (by omega)



end Go.Proofs.YtfhalnobaeogkaaDoor

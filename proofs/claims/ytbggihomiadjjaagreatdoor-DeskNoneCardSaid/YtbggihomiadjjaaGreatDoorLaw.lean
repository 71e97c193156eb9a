/- What is proved: DeskNone returns true, whatever the number and the request are, and leaves memory that was there as it was. -/
import Derived.Test.YtbggihomiadjjaaGreatDoorFit
import Derived.Test.YtbggihomiadjjaaGreatDoorSml
set_option linter.unusedVariables false
set_option linter.unusedSimpArgs false
namespace Go.Proofs.YtbggihomiadjjaaGreatDoor
open Go Go.RowKit Go.Fw Go.Ev
set_option maxRecDepth 100000
theorem Tryz.sz24 : (Tryz.prog.info? 24).map (·.size) = some 16 := by kernel_rfl
/-- The request's parts, held unread. -/
def rpcA (l : List Value) : Nat → List AV
  | i => match l with
    | [] => []
    | v :: l => .val i v :: rpcA l (i + 1)
theorem rpcA_rv {ρ : Rho} : ∀ {l : List Value} {i : Nat}, (∀ u ∈ l, u.oneCell' = true ∧ u.cells = #[u]) → RVs ρ (rpcA l i) l
  | [], i, _ => rfl
  | v :: l, i, h => ⟨v, l, rfl, ⟨rfl, h v (by simp)⟩, rpcA_rv fun u hu => h u (List.mem_cons_of_mem _ hu)⟩
theorem rpcA_one : ∀ {l : List Value} {i : Nat}, ∀ x ∈ rpcA l i, x.one = true
  | [], i, x, h => by cases h
  | v :: l, i, x, h => by
    rcases List.mem_cons.1 h with rfl | h
    · rfl
    · exact rpcA_one x h
noncomputable def f5 (vi : Value) : F := ((T.full 9).set 0 (.val 100 vi)).set 3 (.ptr 1000 0)
noncomputable def s5 (cl : List Value) : S := ⟨(T.full 12).set 1000 (.cells 24 false (rpcA cl 0)), 1001⟩
noncomputable def c5 : Code := match Tryz.f3.body with
  | some (.seq _ (.seq _ (.seq _ c))) => c
  | _ => .skip
theorem tail_ev (vi c0 c1 c2 c3 c4 c5' c6 c7 c8 c9 c10 c11 c12 c13 c14 c15 : Value) : okE (endC Tryz.prog Tryz.f3 (run Tryz.prog sm0 100000 130 c5 (f5 vi) (s5 [c0, c1, c2, c3, c4, c5', c6, c7, c8, c9, c10, c11, c12, c13, c14, c15]))) = true := by kernel_rfl

theorem none_true {W : World} (hL : laidMetH Tryz.prog laidL W) {vi c0 c1 c2 c3 c4 c5' c6 c7 c8 c9 c10 c11 c12 c13 c14 c15 : Value} (hi : vi.oneCell' = true ∧ vi.cells = #[vi]) (hc : ∀ u ∈ [c0, c1, c2, c3, c4, c5', c6, c7, c8, c9, c10, c11, c12, c13, c14, c15], u.oneCell' = true ∧ u.cells = #[u]) (h5 : Els W c5') (h10 : Els W c10) :
    Calls Tryz.prog 3 #[vi, .agg #[c0, c1, c2, c3, c4, c5', c6, c7, c8, c9, c10, c11, c12, c13, c14, c15]] W fun e w' => e = .returned (.bool true) ∧ Ext W w' := by
  refine calls_start 130 Tryz.func3 rfl Tryz.ntmps3 rfl fun a hF => ?_
  have hS := St.refl W
  refine wp_seq_k fun Kq1 hKq1 => ?_
  -- region 0
  refine wp_region_lit ?_
  refine wpList_stp (stp_box (cs := [c0, c1, c2, c3, c4, c5', c6, c7, c8, c9, c10, c11, c12, c13, c14, c15]) hF (wanted_none rfl) rfl rfl rfl (hF.t rfl) rfl hS fun bx a w hF hS => ?_)
  refine wpList_stp (stp_gv hF (wanted_none rfl) rfl rfl (gv_assign rfl (ev_const _ _)) fun a hF => ?_)
  refine wpList_nil ?_
  refine then_normal (hKq1 _ _ ?_)
  refine wp_seq_k fun Kq2 hKq2 => ?_
  refine wp_seq_k fun Kq3 hKq3 => ?_
  -- region 1
  refine wp_region_lit ?_
  refine wpList_stp (stp_call hF (wanted_none rfl) rfl rfl Tryz.ok4 rfl Evs.nil (fit_ok hL (hS.toExt (nw_cons rfl nw_nil))) fun e w h => ?_)
  obtain ⟨rfl, hx⟩ := h
  refine ⟨_, rfl, fun a hF => ?_⟩
  replace hS := hS.ext hx
  refine wpList_stp (stp_gv hF (wanted_none rfl) rfl rfl (gv_not rfl (hF.t rfl)) fun a hF => ?_)
  refine wpList_nil ?_
  refine then_normal (hKq3 _ _ ?_)
  refine wp_cond_false (hF.t rfl) ?_
  refine wp_skip ?_
  refine then_normal (hKq2 _ _ ?_)
  refine wp_seq_k fun Kq4 hKq4 => ?_
  refine wp_seq_k fun Kq5 hKq5 => ?_
  obtain ⟨A5, n5, k5, rfl⟩ := h5.slice
  obtain ⟨A10, n10, k10, rfl⟩ := h10.slice
  -- region 3
  refine wp_region_lit ?_
  refine wpList_stp (stp_gv hF (wanted_none rfl) rfl rfl (gv_field (r := 5) rfl Tryz.underlying24 rfl rfl Tryz.sz22 (by decide) (hF.t rfl)) fun a hF => ?_)
  refine wpList_stp (stp_gv hF (wanted_none rfl) rfl rfl (gv_load rfl Tryz.underlying22 rfl (hF.t rfl) (cell_ix (j := 5) (hS.cell (k := 0) rfl (rfl)) (by omega))) fun a hF => ?_)
  refine wpList_stp (stp_call hF (wanted_none rfl) rfl rfl Tryz.ok5 rfl (Evs.cons (hF.t rfl) (Evs.cons (ev_const _ _) Evs.nil)) (small_ok h5 _ _ (hS.toExt (nw_cons rfl nw_nil))) fun e w h => ?_)
  obtain ⟨⟨z1, rfl⟩, hx⟩ := h
  refine ⟨_, rfl, fun a hF => ?_⟩
  replace hS := hS.ext hx
  refine wpList_stp (stp_gv hF (wanted_none rfl) rfl rfl (gv_lss rfl (hF.t rfl) (ev_const _ _)) fun a hF => ?_)
  refine wpList_stp (stp_gv hF (wanted_none rfl) rfl rfl (gv_move rfl (hF.t rfl)) fun a hF => ?_)
  by_cases hz : z1 < 0
  · rw [decide_eq_true hz] at hF
    refine wpList_stp (stp_skip hF (unwanted_of hF rfl rfl rfl rfl) rfl rfl fun a hF => ?_)
    refine wpList_stp (stp_skip hF (unwanted_of hF rfl rfl rfl rfl) rfl rfl fun a hF => ?_)
    refine wpList_stp (stp_skip hF (unwanted_of hF rfl rfl rfl rfl) rfl rfl fun a hF => ?_)
    refine wpList_stp (stp_skip hF (unwanted_of hF rfl rfl rfl rfl) rfl rfl fun a hF => ?_)
    refine wpList_stp (stp_gv hF (wanted_none rfl) rfl rfl (gv_pickT rfl (hF.t rfl) (ev_const _ _)) fun a hF => ?_)
    refine wpList_nil ?_
    refine then_normal (hKq5 _ _ ?_)
    refine wp_cond_true (hF.t rfl) ?_
    refine wp_seq_k fun Kq6 hKq6 => ?_
    -- region 4
    refine wp_region_lit ?_
    refine wpList_stp (stp_gv hF (wanted_none rfl) rfl rfl (gv_assign rfl (ev_const _ _)) fun a hF => ?_)
    refine wpList_nil ?_
    refine then_normal (hKq6 _ _ ?_)
    refine wp_ret ?_
    refine then_ret ?_
    refine ret1 (fn := Tryz.f3) (t := 4) hF rfl rfl ?_
    exact ⟨rfl, hS.toExt (nw_cons rfl nw_nil)⟩
  · rw [decide_eq_false hz] at hF
    refine wpList_stp (stp_gv hF (wanted_of hF rfl rfl rfl) rfl rfl (gv_field (r := 10) rfl Tryz.underlying24 rfl rfl Tryz.sz22 (by decide) (hF.t rfl)) fun a hF => ?_)
    refine wpList_stp (stp_gv hF (wanted_of hF rfl rfl rfl) rfl rfl (gv_load rfl Tryz.underlying22 rfl (hF.t rfl) (cell_ix (j := 10) (hS.cell (k := 0) rfl (rfl)) (by omega))) fun a hF => ?_)
    refine wpList_stp (stp_call hF (wanted_of hF rfl rfl rfl) rfl rfl Tryz.ok5 rfl (Evs.cons (hF.t rfl) (Evs.cons (ev_const _ _) Evs.nil)) (small_ok h10 _ _ (hS.toExt (nw_cons rfl nw_nil))) fun e w h => ?_)
    obtain ⟨⟨z2, rfl⟩, hx⟩ := h
    refine ⟨_, rfl, fun a hF => ?_⟩
    replace hS := hS.ext hx
    refine wpList_stp (stp_gv hF (wanted_of hF rfl rfl rfl) rfl rfl (gv_lss rfl (hF.t rfl) (ev_const _ _)) fun a hF => ?_)
    refine wpList_stp (stp_gv hF (wanted_none rfl) rfl rfl (gv_pickF rfl (hF.t rfl) (hF.t rfl)) fun a hF => ?_)
    refine wpList_nil ?_
    refine then_normal (hKq5 _ _ ?_)
    refine cond_dec (hF.t rfl) (fun h21 => ?_) (fun h21 => ?_)
    · refine wp_seq_k fun Kq6 hKq6 => ?_
      -- region 4
      refine wp_region_lit ?_
      refine wpList_stp (stp_gv hF (wanted_none rfl) rfl rfl (gv_assign rfl (ev_const _ _)) fun a hF => ?_)
      refine wpList_nil ?_
      refine then_normal (hKq6 _ _ ?_)
      refine wp_ret ?_
      refine then_ret ?_
      refine ret1 (fn := Tryz.f3) (t := 4) hF rfl rfl ?_
      exact ⟨rfl, hS.toExt (nw_cons rfl nw_nil)⟩
    · refine wp_skip ?_
      refine then_normal (hKq4 _ _ ?_)
      have hbx := hS.has _ (List.mem_of_getElem? (i := 0) rfl) bx rfl
      have hnw := hS.new _ (List.mem_of_getElem? (i := 0) rfl) rfl bx rfl
      have h0 := hF.get 0 vi rfl
      have h3 := hF.get 3 _ rfl
      refine tail_true (c := c5) prOk sm0_ok (tail_ev vi c0 c1 c2 c3 c4 (.slice A5 n5 k5) c6 c7 c8 c9 (.slice A10 n10 k10) c11 c12 c13 c14 c15) (ρ := fun i => if i = 1000 then some ⟨bx, 0, 16⟩ else if i < 1000 then some ⟨i, 0, 0⟩ else none) ⟨hF.size, hF.dfs, fun t v ht => ?_⟩ ⟨fun i r hr hd => ?_, fun i j r q p p' hr _ hq _ _ _ _ => ?_, fun i p hp => ?_, fun g hg => ⟨0, by rw [if_neg (by omega), if_pos hg]⟩, by show 1000 ≤ 1001; omega⟩ (hS.toExt (nw_cons rfl nw_nil)) fun b hb => ?_
      · have ht : (((T.full 9).set 0 (.val 100 vi)).set 3 (.ptr 1000 0) : F).get t = some v := ht
        rcases T.get_set ht with ⟨rfl, rfl⟩ | ⟨_, ht⟩
        · exact ⟨⟨bx, 0, 16⟩, if_pos rfl, h3⟩
        · rcases T.get_set ht with ⟨rfl, rfl⟩ | ⟨_, ht⟩
          · exact ⟨h0, hi⟩
          · rw [T.get_full] at ht; cases ht
      · have hr : ((T.full 12).set 1000 (.cells 24 false (rpcA _ 0)) : T Row).get i = some r := hr
        rcases T.get_set hr with ⟨rfl, rfl⟩ | ⟨_, hr⟩
        · refine ⟨⟨bx, 0, 16⟩, if_pos rfl, _, 24, (0, 0), hbx, rfl, .inl rfl, by show 0 + 16 ≤ 16; omega, fun _ => rfl, fun k v hv => ?_⟩
          have hv := (rpcA_rv (ρ := fun i => if i = 1000 then some ⟨bx, 0, 16⟩ else if i < 1000 then some ⟨i, 0, 0⟩ else none) hc (i := 0)).get hv
          obtain ⟨u, hu, hru⟩ := hv
          refine ⟨rpcA_one v (List.mem_of_getElem? ‹_›), u, ?_, hru⟩
          rw [Nat.zero_add, List.getElem?_toArray]
          exact hu
        · rw [T.get_full] at hr; cases hr
      · have hr : ((T.full 12).set 1000 (.cells 24 false (rpcA _ 0)) : T Row).get i = some r := hr
        have hq : ((T.full 12).set 1000 (.cells 24 false (rpcA _ 0)) : T Row).get j = some q := hq
        rcases T.get_set hr with ⟨rfl, _⟩ | ⟨_, hr⟩
        · rcases T.get_set hq with ⟨rfl, _⟩ | ⟨_, hq⟩
          · rfl
          · rw [T.get_full] at hq; cases hq
        · rw [T.get_full] at hr; cases hr
      · by_cases h1 : i = 1000
        · rw [if_pos h1] at hp
          injection hp with hp
          subst hp
          exact ⟨by show i < 1001; omega, fun _ => heap_lt hbx⟩
        · have hp : (if i = 1000 then some (⟨bx, 0, 16⟩ : Pl) else if i < 1000 then some ⟨i, 0, 0⟩ else none) = some p := hp
          rw [if_neg h1] at hp
          split at hp
          · exact ⟨by show i < 1001; omega, fun _ => by omega⟩
          · cases hp
      · obtain ⟨i, r, p, hr, _, hp, rfl⟩ := hb
        have hr : ((T.full 12).set 1000 (.cells 24 false (rpcA _ 0)) : T Row).get i = some r := hr
        rcases T.get_set hr with ⟨rfl, _⟩ | ⟨_, hr⟩
        · have hp : some (⟨bx, 0, 16⟩ : Pl) = some p := hp
          injection hp with hp
          subst hp
          exact hnw
        · rw [T.get_full] at hr; cases hr
end Go.Proofs.YtbggihomiadjjaaGreatDoor

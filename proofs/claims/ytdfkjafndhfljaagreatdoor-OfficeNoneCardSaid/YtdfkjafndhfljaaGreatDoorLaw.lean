/- What is proved: OfficeNone returns true, whatever the number and the bytes are, and leaves memory that was there as it was. -/
import Derived.Test.YtdfkjafndhfljaaGreatDoorTl0
import Derived.Test.YtdfkjafndhfljaaGreatDoorTl1
import Derived.Test.YtdfkjafndhfljaaGreatDoorTl2
import Derived.Test.YtdfkjafndhfljaaGreatDoorTl3
set_option linter.unusedVariables false
set_option linter.unusedSimpArgs false
namespace Go.Proofs.YtdfkjafndhfljaaGreatDoor
open Go Go.RowKit Go.Fw Go.Ev
set_option maxRecDepth 100000
theorem tail_all (x : Int) : TailOk x := by
  rcases x with x | a
  · match x with
    | 0 => exact tail_0
    | 1 => exact tail_1
    | 2 => exact tail_2
    | 3 => exact tail_3
    | 4 => exact tail_4
    | 5 => exact tail_5
    | 6 => exact tail_6
    | 7 => exact tail_7
    | 8 => exact tail_8
    | a + 9 => exact tail_big a
  · exact tail_neg a
theorem none_true {W : World} (hL : laidMetH Tryz.prog laidL W) {m : Int} (hm : MaxAt W m) (x : Int) (A : Option Addr) (n c : Nat) :
    Calls Tryz.prog 3 #[.int .i64 x, .slice A n c] W fun e w' => e = .returned (.bool true) ∧ Ext W w' := by
  refine calls_start 119 Tryz.func3 rfl Tryz.ntmps3 rfl fun a hF => ?_
  have hS := St.refl W
  refine wp_seq_k fun Kq1 hKq1 => ?_
  -- region 0
  refine wp_region_lit ?_
  refine wpList_stp (stp_gv hF (wanted_none rfl) rfl rfl (gv_assign rfl (ev_const _ _)) fun a hF => ?_)
  refine wpList_nil ?_
  refine then_normal (hKq1 _ _ ?_)
  refine wp_seq_k fun Kq2 hKq2 => ?_
  refine wp_seq_k fun Kq3 hKq3 => ?_
  -- region 1
  refine wp_region_lit ?_
  refine wpList_stp (stp_call hF (wanted_none rfl) rfl rfl Tryz.ok5 rfl Evs.nil (fit_ok hL hm (hS.toExt nw_nil)) fun e w h => ?_)
  obtain ⟨rfl, hx⟩ := h
  refine ⟨_, rfl, fun a hF => ?_⟩
  replace hS := hS.ext hx
  refine wpList_stp (stp_gv hF (wanted_none rfl) rfl rfl (gv_not rfl (hF.t rfl)) fun a hF => ?_)
  refine wpList_nil ?_
  refine then_normal (hKq3 _ _ ?_)
  refine wp_cond_false (hF.t rfl) ?_
  refine wp_skip ?_
  refine then_normal (hKq2 _ _ ?_)
  refine wp_seq_k fun Kq4 hKq4 => ?_
  refine wp_seq_k fun Kq5 hKq5 => ?_
  -- region 3
  refine wp_region_lit ?_
  refine wpList_stp (stp_gv hF (wanted_none rfl) rfl rfl (gv_move rfl (hF.t rfl)) fun a hF => ?_)
  refine wpList_stp (stp_gv hF (wanted_none rfl) rfl rfl (gv_len rfl Tryz.underlying22 (hF.t rfl)) fun a hF => ?_)
  refine wpList_stp (stp_gv hF (wanted_none rfl) rfl rfl (gv_gtr rfl (hF.t rfl) (ev_const _ _)) fun a hF => ?_)
  refine wpList_nil ?_
  refine then_normal (hKq5 _ _ ?_)
  refine cond_dec (hF.t rfl) (fun h20 => ?_) (fun h20 => ?_)
  · refine wp_seq_k fun Kq6 hKq6 => ?_
    -- region 4
    refine wp_region_lit ?_
    refine wpList_stp (stp_gv hF (wanted_none rfl) rfl rfl (gv_assign rfl (ev_const _ _)) fun a hF => ?_)
    refine wpList_nil ?_
    refine then_normal (hKq6 _ _ ?_)
    refine wp_ret ?_
    refine then_ret ?_
    refine ret1 (fn := Tryz.f3) (t := 4) hF rfl rfl ?_
    exact ⟨rfl, hS.toExt nw_nil⟩
  · refine wp_skip ?_
    refine then_normal (hKq4 _ _ ?_)
    have g0 := hF.get 0 _ rfl
    have g1 := hF.get 1 _ rfl
    have hE := hS.toExt nw_nil
    refine tail_low (c := c3x) prOk smF_ok (tail_all x m (.slice A n c)) (ρ := rho0 (gsz W)) ⟨hF.size, hF.dfs, fun t v ht => ?_⟩ (Goes.ofExt (glob_rel hL hm) hE).rel hE (s0_low _)
    have ht : (((T.full 9).set 0 (.int .i64 x)).set 1 (.val 100 (.slice A n c)) : F).get t = some v := ht
    rcases T.get_set ht with ⟨rfl, rfl⟩ | ⟨_, ht⟩
    · exact ⟨g1, rfl, rfl⟩
    · rcases T.get_set ht with ⟨rfl, rfl⟩ | ⟨_, ht⟩
      · exact g0
      · rw [T.get_full] at ht; cases ht
end Go.Proofs.YtdfkjafndhfljaaGreatDoor

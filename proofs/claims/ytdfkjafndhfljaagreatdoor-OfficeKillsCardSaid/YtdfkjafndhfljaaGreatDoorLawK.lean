/- What is proved: OfficeKills returns true, whatever the numbers and the truth are, and leaves memory that was there as it was. -/
import Derived.Test.YtdfkjafndhfljaaGreatDoorSn1
import Derived.Test.YtdfkjafndhfljaaGreatDoorSn20
import Derived.Test.YtdfkjafndhfljaaGreatDoorSn21
import Derived.Test.YtdfkjafndhfljaaGreatDoorTk1
import Derived.Test.YtdfkjafndhfljaaGreatDoorTk2
import Derived.Test.YtdfkjafndhfljaaGreatDoorTk3
import Derived.Test.YtdfkjafndhfljaaGreatDoorTk4
import Derived.Test.YtdfkjafndhfljaaGreatDoorTk5
import Derived.Test.YtdfkjafndhfljaaGreatDoorTk6
import Derived.Test.YtdfkjafndhfljaaGreatDoorTk7
import Derived.Test.YtdfkjafndhfljaaGreatDoorTk8
set_option linter.unusedVariables false
set_option linter.unusedSimpArgs false
namespace Go.Proofs.YtdfkjafndhfljaaGreatDoor
open Go Go.RowKit Go.Fw Go.Ev
set_option maxRecDepth 100000
def oneTo8 (x : Int) : Prop := x = 1 ∨ x = 2 ∨ x = 3 ∨ x = 4 ∨ x = 5 ∨ x = 6 ∨ x = 7 ∨ x = 8
theorem E8_cases (x : Int) : oneTo8 (E8 x) := by
  have h1 : Int.tmod x 8 < 8 := Int.tmod_lt_of_pos x (by decide)
  have h2 : -8 < Int.tmod x 8 := Int.lt_tmod_of_pos x (by decide)
  unfold E8
  generalize Int.tmod x 8 = q at h1 h2 ⊢
  have : q = -7 ∨ q = -6 ∨ q = -5 ∨ q = -4 ∨ q = -3 ∨ q = -2 ∨ q = -1 ∨ q = 0 ∨ q = 1 ∨ q = 2 ∨ q = 3 ∨ q = 4 ∨ q = 5 ∨ q = 6 ∨ q = 7 := by omega
  unfold oneTo8
  rcases this with rfl | rfl | rfl | rfl | rfl | rfl | rfl | rfl | rfl | rfl | rfl | rfl | rfl | rfl | rfl
  · exact .inr (.inl (by kernel_rfl))
  · exact .inr (.inr (.inl (by kernel_rfl)))
  · exact .inr (.inr (.inr (.inl (by kernel_rfl))))
  · exact .inr (.inr (.inr (.inr (.inl (by kernel_rfl)))))
  · exact .inr (.inr (.inr (.inr (.inr (.inl (by kernel_rfl))))))
  · exact .inr (.inr (.inr (.inr (.inr (.inr (.inl (by kernel_rfl)))))))
  · exact .inr (.inr (.inr (.inr (.inr (.inr (.inr (by kernel_rfl)))))))
  · exact .inl (by kernel_rfl)
  · exact .inr (.inl (by kernel_rfl))
  · exact .inr (.inr (.inl (by kernel_rfl)))
  · exact .inr (.inr (.inr (.inl (by kernel_rfl))))
  · exact .inr (.inr (.inr (.inr (.inl (by kernel_rfl)))))
  · exact .inr (.inr (.inr (.inr (.inr (.inl (by kernel_rfl))))))
  · exact .inr (.inr (.inr (.inr (.inr (.inr (.inl (by kernel_rfl)))))))
  · exact .inr (.inr (.inr (.inr (.inr (.inr (.inr (by kernel_rfl)))))))
theorem gl_0 (m : Int) : ∀ x ∈ glM m, x.1 < 1000 ∧ (s0 (.int .i64 m)).h.get x.1 = some x.2 := fun x hx => by
  simp only [glM, tabL, List.mem_cons, List.mem_nil_iff, or_false] at hx
  rcases hx with rfl | rfl | rfl | rfl | rfl | rfl | rfl <;> exact ⟨Nat.le_of_ble_eq_true (by kernel_rfl), by kernel_rfl⟩
theorem gl_1 (m : Int) : ∀ x ∈ glM m, x.1 < 1000 ∧ (⟨setG (glM m ++ rw1), 1895⟩ : S).h.get x.1 = some x.2 := fun x hx => by
  simp only [glM, tabL, List.mem_cons, List.mem_nil_iff, or_false] at hx
  rcases hx with rfl | rfl | rfl | rfl | rfl | rfl | rfl <;> exact ⟨Nat.le_of_ble_eq_true (by kernel_rfl), by kernel_rfl⟩
theorem cd_1 : lastC (pcs.drop 2) = p1C.foldr Code.seq (lastC (pcs.drop 7)) := by kernel_rfl
theorem cd_2 : lastC (pcs.drop 7) = p2C.foldr Code.seq tC := by kernel_rfl
section
variable {W w : World} {ρ : Rho} {m x : Int} {c : Bool} {act : Act}
theorem kb1 (hx : oneTo8 x) (hF : FR 158 ρ (setF ([0, 1, 2].zip [AV.int .i64 x, .int .i64 1, .bool c] ++ fl1)) act) (hR : Rel ρ ⟨setG (glM m ++ rw1), 1895⟩ w) (hS : Ev.Safe W ρ ⟨setG (glM m ++ rw1), 1895⟩ w) : (lastC (pcs.drop 7)).wp Tryz.prog (bodyPost Tryz.prog Tryz.f4 (fun e w' => e = .returned (.bool true) ∧ Ext W w')) act w := by
  rw [cd_2]
  have ht : TailK1 x c := by
    rcases hx with rfl | rfl | rfl | rfl | rfl | rfl | rfl | rfl <;> cases c
    · exact tk1_1_false
    · exact tk1_1_true
    · exact tk1_2_false
    · exact tk1_2_true
    · exact tk1_3_false
    · exact tk1_3_true
    · exact tk1_4_false
    · exact tk1_4_true
    · exact tk1_5_false
    · exact tk1_5_true
    · exact tk1_6_false
    · exact tk1_6_true
    · exact tk1_7_false
    · exact tk1_7_true
    · exact tk1_8_false
    · exact tk1_8_true
  exact snapL_run prOk smK_ok (gl_1 m) (sn2_1 m x c) hF hR hS fun a' w' ρ' g1 g2 g3 => tail_safe prOk smK_ok (ht m) g1 g2 g3
theorem kb2 (hx : oneTo8 x) (hF : FR 158 ρ (setF ([0, 1, 2].zip [AV.int .i64 x, .int .i64 2, .bool c] ++ fl1)) act) (hR : Rel ρ ⟨setG (glM m ++ rw1), 1895⟩ w) (hS : Ev.Safe W ρ ⟨setG (glM m ++ rw1), 1895⟩ w) : (lastC (pcs.drop 7)).wp Tryz.prog (bodyPost Tryz.prog Tryz.f4 (fun e w' => e = .returned (.bool true) ∧ Ext W w')) act w := by
  rw [cd_2]
  have ht : TailK2 x c := by
    rcases hx with rfl | rfl | rfl | rfl | rfl | rfl | rfl | rfl <;> cases c
    · exact tk2_1_false
    · exact tk2_1_true
    · exact tk2_2_false
    · exact tk2_2_true
    · exact tk2_3_false
    · exact tk2_3_true
    · exact tk2_4_false
    · exact tk2_4_true
    · exact tk2_5_false
    · exact tk2_5_true
    · exact tk2_6_false
    · exact tk2_6_true
    · exact tk2_7_false
    · exact tk2_7_true
    · exact tk2_8_false
    · exact tk2_8_true
  exact snapL_run prOk smK_ok (gl_1 m) (sn2_2 m x c) hF hR hS fun a' w' ρ' g1 g2 g3 => tail_safe prOk smK_ok (ht m) g1 g2 g3
theorem kb3 (hx : oneTo8 x) (hF : FR 158 ρ (setF ([0, 1, 2].zip [AV.int .i64 x, .int .i64 3, .bool c] ++ fl1)) act) (hR : Rel ρ ⟨setG (glM m ++ rw1), 1895⟩ w) (hS : Ev.Safe W ρ ⟨setG (glM m ++ rw1), 1895⟩ w) : (lastC (pcs.drop 7)).wp Tryz.prog (bodyPost Tryz.prog Tryz.f4 (fun e w' => e = .returned (.bool true) ∧ Ext W w')) act w := by
  rw [cd_2]
  have ht : TailK3 x c := by
    rcases hx with rfl | rfl | rfl | rfl | rfl | rfl | rfl | rfl <;> cases c
    · exact tk3_1_false
    · exact tk3_1_true
    · exact tk3_2_false
    · exact tk3_2_true
    · exact tk3_3_false
    · exact tk3_3_true
    · exact tk3_4_false
    · exact tk3_4_true
    · exact tk3_5_false
    · exact tk3_5_true
    · exact tk3_6_false
    · exact tk3_6_true
    · exact tk3_7_false
    · exact tk3_7_true
    · exact tk3_8_false
    · exact tk3_8_true
  exact snapL_run prOk smK_ok (gl_1 m) (sn2_3 m x c) hF hR hS fun a' w' ρ' g1 g2 g3 => tail_safe prOk smK_ok (ht m) g1 g2 g3
theorem kb4 (hx : oneTo8 x) (hF : FR 158 ρ (setF ([0, 1, 2].zip [AV.int .i64 x, .int .i64 4, .bool c] ++ fl1)) act) (hR : Rel ρ ⟨setG (glM m ++ rw1), 1895⟩ w) (hS : Ev.Safe W ρ ⟨setG (glM m ++ rw1), 1895⟩ w) : (lastC (pcs.drop 7)).wp Tryz.prog (bodyPost Tryz.prog Tryz.f4 (fun e w' => e = .returned (.bool true) ∧ Ext W w')) act w := by
  rw [cd_2]
  have ht : TailK4 x c := by
    rcases hx with rfl | rfl | rfl | rfl | rfl | rfl | rfl | rfl <;> cases c
    · exact tk4_1_false
    · exact tk4_1_true
    · exact tk4_2_false
    · exact tk4_2_true
    · exact tk4_3_false
    · exact tk4_3_true
    · exact tk4_4_false
    · exact tk4_4_true
    · exact tk4_5_false
    · exact tk4_5_true
    · exact tk4_6_false
    · exact tk4_6_true
    · exact tk4_7_false
    · exact tk4_7_true
    · exact tk4_8_false
    · exact tk4_8_true
  exact snapL_run prOk smK_ok (gl_1 m) (sn2_4 m x c) hF hR hS fun a' w' ρ' g1 g2 g3 => tail_safe prOk smK_ok (ht m) g1 g2 g3
theorem kb5 (hx : oneTo8 x) (hF : FR 158 ρ (setF ([0, 1, 2].zip [AV.int .i64 x, .int .i64 5, .bool c] ++ fl1)) act) (hR : Rel ρ ⟨setG (glM m ++ rw1), 1895⟩ w) (hS : Ev.Safe W ρ ⟨setG (glM m ++ rw1), 1895⟩ w) : (lastC (pcs.drop 7)).wp Tryz.prog (bodyPost Tryz.prog Tryz.f4 (fun e w' => e = .returned (.bool true) ∧ Ext W w')) act w := by
  rw [cd_2]
  have ht : TailK5 x c := by
    rcases hx with rfl | rfl | rfl | rfl | rfl | rfl | rfl | rfl <;> cases c
    · exact tk5_1_false
    · exact tk5_1_true
    · exact tk5_2_false
    · exact tk5_2_true
    · exact tk5_3_false
    · exact tk5_3_true
    · exact tk5_4_false
    · exact tk5_4_true
    · exact tk5_5_false
    · exact tk5_5_true
    · exact tk5_6_false
    · exact tk5_6_true
    · exact tk5_7_false
    · exact tk5_7_true
    · exact tk5_8_false
    · exact tk5_8_true
  exact snapL_run prOk smK_ok (gl_1 m) (sn2_5 m x c) hF hR hS fun a' w' ρ' g1 g2 g3 => tail_safe prOk smK_ok (ht m) g1 g2 g3
theorem kb6 (hx : oneTo8 x) (hF : FR 158 ρ (setF ([0, 1, 2].zip [AV.int .i64 x, .int .i64 6, .bool c] ++ fl1)) act) (hR : Rel ρ ⟨setG (glM m ++ rw1), 1895⟩ w) (hS : Ev.Safe W ρ ⟨setG (glM m ++ rw1), 1895⟩ w) : (lastC (pcs.drop 7)).wp Tryz.prog (bodyPost Tryz.prog Tryz.f4 (fun e w' => e = .returned (.bool true) ∧ Ext W w')) act w := by
  rw [cd_2]
  have ht : TailK6 x c := by
    rcases hx with rfl | rfl | rfl | rfl | rfl | rfl | rfl | rfl <;> cases c
    · exact tk6_1_false
    · exact tk6_1_true
    · exact tk6_2_false
    · exact tk6_2_true
    · exact tk6_3_false
    · exact tk6_3_true
    · exact tk6_4_false
    · exact tk6_4_true
    · exact tk6_5_false
    · exact tk6_5_true
    · exact tk6_6_false
    · exact tk6_6_true
    · exact tk6_7_false
    · exact tk6_7_true
    · exact tk6_8_false
    · exact tk6_8_true
  exact snapL_run prOk smK_ok (gl_1 m) (sn2_6 m x c) hF hR hS fun a' w' ρ' g1 g2 g3 => tail_safe prOk smK_ok (ht m) g1 g2 g3
theorem kb7 (hx : oneTo8 x) (hF : FR 158 ρ (setF ([0, 1, 2].zip [AV.int .i64 x, .int .i64 7, .bool c] ++ fl1)) act) (hR : Rel ρ ⟨setG (glM m ++ rw1), 1895⟩ w) (hS : Ev.Safe W ρ ⟨setG (glM m ++ rw1), 1895⟩ w) : (lastC (pcs.drop 7)).wp Tryz.prog (bodyPost Tryz.prog Tryz.f4 (fun e w' => e = .returned (.bool true) ∧ Ext W w')) act w := by
  rw [cd_2]
  have ht : TailK7 x c := by
    rcases hx with rfl | rfl | rfl | rfl | rfl | rfl | rfl | rfl <;> cases c
    · exact tk7_1_false
    · exact tk7_1_true
    · exact tk7_2_false
    · exact tk7_2_true
    · exact tk7_3_false
    · exact tk7_3_true
    · exact tk7_4_false
    · exact tk7_4_true
    · exact tk7_5_false
    · exact tk7_5_true
    · exact tk7_6_false
    · exact tk7_6_true
    · exact tk7_7_false
    · exact tk7_7_true
    · exact tk7_8_false
    · exact tk7_8_true
  exact snapL_run prOk smK_ok (gl_1 m) (sn2_7 m x c) hF hR hS fun a' w' ρ' g1 g2 g3 => tail_safe prOk smK_ok (ht m) g1 g2 g3
theorem kb8 (hx : oneTo8 x) (hF : FR 158 ρ (setF ([0, 1, 2].zip [AV.int .i64 x, .int .i64 8, .bool c] ++ fl1)) act) (hR : Rel ρ ⟨setG (glM m ++ rw1), 1895⟩ w) (hS : Ev.Safe W ρ ⟨setG (glM m ++ rw1), 1895⟩ w) : (lastC (pcs.drop 7)).wp Tryz.prog (bodyPost Tryz.prog Tryz.f4 (fun e w' => e = .returned (.bool true) ∧ Ext W w')) act w := by
  rw [cd_2]
  have ht : TailK8 x c := by
    rcases hx with rfl | rfl | rfl | rfl | rfl | rfl | rfl | rfl <;> cases c
    · exact tk8_1_false
    · exact tk8_1_true
    · exact tk8_2_false
    · exact tk8_2_true
    · exact tk8_3_false
    · exact tk8_3_true
    · exact tk8_4_false
    · exact tk8_4_true
    · exact tk8_5_false
    · exact tk8_5_true
    · exact tk8_6_false
    · exact tk8_6_true
    · exact tk8_7_false
    · exact tk8_7_true
    · exact tk8_8_false
    · exact tk8_8_true
  exact snapL_run prOk smK_ok (gl_1 m) (sn2_8 m x c) hF hR hS fun a' w' ρ' g1 g2 g3 => tail_safe prOk smK_ok (ht m) g1 g2 g3
end
theorem kills_true {W : World} (hL : laidMetH Tryz.prog laidL W) {m : Int} (hm : MaxAt W m) (x y : Int) (c : Bool) :
    Calls Tryz.prog 4 #[.int .i64 x, .int .i64 y, .bool c] W fun e w' => e = .returned (.bool true) ∧ Ext W w' := by
  refine calls_start 158 Tryz.func4 rfl Tryz.ntmps4 rfl fun a hF => ?_
  have hS := St.refl W
  refine wp_seq_k fun Kq1 hKq1 => ?_
  -- region 0
  refine wp_region_lit ?_
  refine wpList_stp (stp_gv hF (wanted_none rfl) rfl rfl (gv_assign rfl (ev_const _ _)) fun a hF => ?_)
  refine wpList_nil ?_
  refine then_normal (hKq1 _ _ ?_)
  refine wp_seq_k fun Kq2 hKq2 => ?_
  refine wp_seq_k fun Kq3 hKq3 => ?_
  -- region 1
  refine wp_region_lit ?_
  refine wpList_stp (stp_call hF (wanted_none rfl) rfl rfl Tryz.ok5 rfl Evs.nil (fit_ok hL hm (hS.toExt nw_nil)) fun e w h => ?_)
  obtain ⟨rfl, hx⟩ := h
  refine ⟨_, rfl, fun a hF => ?_⟩
  replace hS := hS.ext hx
  refine wpList_stp (stp_gv hF (wanted_none rfl) rfl rfl (gv_not rfl (hF.t rfl)) fun a hF => ?_)
  refine wpList_nil ?_
  refine then_normal (hKq3 _ _ ?_)
  refine wp_cond_false (hF.t rfl) ?_
  refine wp_skip ?_
  refine then_normal (hKq2 _ _ ?_)
  have g0 := hF.get 0 _ rfl
  have g1 := hF.get 1 _ rfl
  have g2 := hF.get 2 _ rfl
  have hE := hS.toExt nw_nil
  have hR := (Goes.ofExt (glob_rel hL hm) hE).rel
  have hSf : Ev.Safe W (rho0 (gsz W)) (s0 (.int .i64 m)) w := Ev.Safe.start hR (s0_low _) hE
  change (lastC (pcs.drop 2)).wp _ _ _ _
  rw [cd_1]
  refine snapL_run prOk smK_ok (gl_0 m) (sn1 m x y c) ⟨hF.size, hF.dfs, fun t v ht => ?_⟩ hR hSf fun a1 w1 ρ1 k1 k2 k3 => ?_
  · have ht := setF_get ht
    simp only [List.mem_cons, List.mem_nil_iff, or_false, Prod.mk.injEq] at ht
    rcases ht with ⟨rfl, rfl⟩ | ⟨rfl, rfl⟩ | ⟨rfl, rfl⟩
    · exact g0
    · exact g1
    · exact g2
  · have hx := E8_cases x
    have hy := E8_cases y
    rcases hy with e | e | e | e | e | e | e | e <;> rw [e] at k1
    · exact kb1 hx k1 k2 k3
    · exact kb2 hx k1 k2 k3
    · exact kb3 hx k1 k2 k3
    · exact kb4 hx k1 k2 k3
    · exact kb5 hx k1 k2 k3
    · exact kb6 hx k1 k2 k3
    · exact kb7 hx k1 k2 k3
    · exact kb8 hx k1 k2 k3
end Go.Proofs.YtdfkjafndhfljaaGreatDoor

/- What is proved: the rest of OfficeKills returns true, at some numbers. -/
import Derived.Test.YtdfkjafndhfljaaGreatDoorSnD
set_option linter.unusedVariables false
set_option linter.unusedSimpArgs false
namespace Go.Proofs.YtdfkjafndhfljaaGreatDoor
open Go Go.RowKit Go.Fw Go.Ev
set_option maxRecDepth 100000
def TailK2 (a : Int) (c : Bool) : Prop := ∀ m : Int, okE (endC Tryz.prog Tryz.f4 (run Tryz.prog smK 100000 158 tC (setF ([0, 1, 2].zip [AV.int .i64 a, .int .i64 2, .bool c] ++ fl2_2)) ⟨setG (glM m ++ rw2_2), 2033⟩)) = true
theorem tk2_1_false : TailK2 1 false := fun m => by kernel_rfl
theorem tk2_1_true : TailK2 1 true := fun m => by kernel_rfl
theorem tk2_2_false : TailK2 2 false := fun m => by kernel_rfl
theorem tk2_2_true : TailK2 2 true := fun m => by kernel_rfl
theorem tk2_3_false : TailK2 3 false := fun m => by kernel_rfl
theorem tk2_3_true : TailK2 3 true := fun m => by kernel_rfl
theorem tk2_4_false : TailK2 4 false := fun m => by kernel_rfl
theorem tk2_4_true : TailK2 4 true := fun m => by kernel_rfl
theorem tk2_5_false : TailK2 5 false := fun m => by kernel_rfl
theorem tk2_5_true : TailK2 5 true := fun m => by kernel_rfl
theorem tk2_6_false : TailK2 6 false := fun m => by kernel_rfl
theorem tk2_6_true : TailK2 6 true := fun m => by kernel_rfl
theorem tk2_7_false : TailK2 7 false := fun m => by kernel_rfl
theorem tk2_7_true : TailK2 7 true := fun m => by kernel_rfl
theorem tk2_8_false : TailK2 8 false := fun m => by kernel_rfl
theorem tk2_8_true : TailK2 8 true := fun m => by kernel_rfl
end Go.Proofs.YtdfkjafndhfljaaGreatDoor

/- What is proved: the rest of OfficeKills returns true, at some numbers. -/
import Derived.Test.YtdfkjafndhfljaaGreatDoorSnD
set_option linter.unusedVariables false
set_option linter.unusedSimpArgs false
namespace Go.Proofs.YtdfkjafndhfljaaGreatDoor
open Go Go.RowKit Go.Fw Go.Ev
set_option maxRecDepth 100000
def TailK8 (a : Int) (c : Bool) : Prop := ∀ m : Int, okE (endC Tryz.prog Tryz.f4 (run Tryz.prog smK 100000 158 tC (setF ([0, 1, 2].zip [AV.int .i64 a, .int .i64 8, .bool c] ++ fl2_8)) ⟨setG (glM m ++ rw2_8), 2033⟩)) = true
theorem tk8_1_false : TailK8 1 false := fun m => by kernel_rfl
theorem tk8_1_true : TailK8 1 true := fun m => by kernel_rfl
theorem tk8_2_false : TailK8 2 false := fun m => by kernel_rfl
theorem tk8_2_true : TailK8 2 true := fun m => by kernel_rfl
theorem tk8_3_false : TailK8 3 false := fun m => by kernel_rfl
theorem tk8_3_true : TailK8 3 true := fun m => by kernel_rfl
theorem tk8_4_false : TailK8 4 false := fun m => by kernel_rfl
theorem tk8_4_true : TailK8 4 true := fun m => by kernel_rfl
theorem tk8_5_false : TailK8 5 false := fun m => by kernel_rfl
theorem tk8_5_true : TailK8 5 true := fun m => by kernel_rfl
theorem tk8_6_false : TailK8 6 false := fun m => by kernel_rfl
theorem tk8_6_true : TailK8 6 true := fun m => by kernel_rfl
theorem tk8_7_false : TailK8 7 false := fun m => by kernel_rfl
theorem tk8_7_true : TailK8 7 true := fun m => by kernel_rfl
theorem tk8_8_false : TailK8 8 false := fun m => by kernel_rfl
theorem tk8_8_true : TailK8 8 true := fun m => by kernel_rfl
end Go.Proofs.YtdfkjafndhfljaaGreatDoor

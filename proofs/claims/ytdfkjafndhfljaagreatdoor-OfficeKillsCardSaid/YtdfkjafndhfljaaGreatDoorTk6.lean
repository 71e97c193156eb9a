/- What is proved: the rest of OfficeKills returns true, at some numbers. -/
import Derived.Test.YtdfkjafndhfljaaGreatDoorSnD
set_option linter.unusedVariables false
set_option linter.unusedSimpArgs false
namespace Go.Proofs.YtdfkjafndhfljaaGreatDoor
open Go Go.RowKit Go.Fw Go.Ev
set_option maxRecDepth 100000
def TailK6 (a : Int) (c : Bool) : Prop := ∀ m : Int, okE (endC Tryz.prog Tryz.f4 (run Tryz.prog smK 100000 158 tC (setF ([0, 1, 2].zip [AV.int .i64 a, .int .i64 6, .bool c] ++ fl2_6)) ⟨setG (glM m ++ rw2_6), 2033⟩)) = true
theorem tk6_1_false : TailK6 1 false := fun m => by kernel_rfl
theorem tk6_1_true : TailK6 1 true := fun m => by kernel_rfl
theorem tk6_2_false : TailK6 2 false := fun m => by kernel_rfl
theorem tk6_2_true : TailK6 2 true := fun m => by kernel_rfl
theorem tk6_3_false : TailK6 3 false := fun m => by kernel_rfl
theorem tk6_3_true : TailK6 3 true := fun m => by kernel_rfl
theorem tk6_4_false : TailK6 4 false := fun m => by kernel_rfl
theorem tk6_4_true : TailK6 4 true := fun m => by kernel_rfl
theorem tk6_5_false : TailK6 5 false := fun m => by kernel_rfl
theorem tk6_5_true : TailK6 5 true := fun m => by kernel_rfl
theorem tk6_6_false : TailK6 6 false := fun m => by kernel_rfl
theorem tk6_6_true : TailK6 6 true := fun m => by kernel_rfl
theorem tk6_7_false : TailK6 7 false := fun m => by kernel_rfl
theorem tk6_7_true : TailK6 7 true := fun m => by kernel_rfl
theorem tk6_8_false : TailK6 8 false := fun m => by kernel_rfl
theorem tk6_8_true : TailK6 8 true := fun m => by kernel_rfl
end Go.Proofs.YtdfkjafndhfljaaGreatDoor

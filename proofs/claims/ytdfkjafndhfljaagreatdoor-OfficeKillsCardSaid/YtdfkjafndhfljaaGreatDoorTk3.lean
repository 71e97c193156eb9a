/- What is proved: the rest of OfficeKills returns true, at some numbers. -/
import Derived.Test.YtdfkjafndhfljaaGreatDoorSnD
set_option linter.unusedVariables false
set_option linter.unusedSimpArgs false
namespace Go.Proofs.YtdfkjafndhfljaaGreatDoor
open Go Go.RowKit Go.Fw Go.Ev
set_option maxRecDepth 100000
def TailK3 (a : Int) (c : Bool) : Prop := ∀ m : Int, okE (endC Tryz.prog Tryz.f4 (run Tryz.prog smK 100000 158 tC (setF ([0, 1, 2].zip [AV.int .i64 a, .int .i64 3, .bool c] ++ fl2_3)) ⟨setG (glM m ++ rw2_3), 2033⟩)) = true
theorem tk3_1_false : TailK3 1 false := fun m => by kernel_rfl
theorem tk3_1_true : TailK3 1 true := fun m => by kernel_rfl
theorem tk3_2_false : TailK3 2 false := fun m => by kernel_rfl
theorem tk3_2_true : TailK3 2 true := fun m => by kernel_rfl
theorem tk3_3_false : TailK3 3 false := fun m => by kernel_rfl
theorem tk3_3_true : TailK3 3 true := fun m => by kernel_rfl
theorem tk3_4_false : TailK3 4 false := fun m => by kernel_rfl
theorem tk3_4_true : TailK3 4 true := fun m => by kernel_rfl
theorem tk3_5_false : TailK3 5 false := fun m => by kernel_rfl
theorem tk3_5_true : TailK3 5 true := fun m => by kernel_rfl
theorem tk3_6_false : TailK3 6 false := fun m => by kernel_rfl
theorem tk3_6_true : TailK3 6 true := fun m => by kernel_rfl
theorem tk3_7_false : TailK3 7 false := fun m => by kernel_rfl
theorem tk3_7_true : TailK3 7 true := fun m => by kernel_rfl
theorem tk3_8_false : TailK3 8 false := fun m => by kernel_rfl
theorem tk3_8_true : TailK3 8 true := fun m => by kernel_rfl
end Go.Proofs.YtdfkjafndhfljaaGreatDoor

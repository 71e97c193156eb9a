/- What is proved: the rest of OfficeKills returns true, at some numbers. -/
import Derived.Test.YtdfkjafndhfljaaGreatDoorSnD
set_option linter.unusedVariables false
set_option linter.unusedSimpArgs false
namespace Go.Proofs.YtdfkjafndhfljaaGreatDoor
open Go Go.RowKit Go.Fw Go.Ev
set_option maxRecDepth 100000
def TailK1 (a : Int) (c : Bool) : Prop := ∀ m : Int, okE (endC Tryz.prog Tryz.f4 (run Tryz.prog smK 100000 158 tC (setF ([0, 1, 2].zip [AV.int .i64 a, .int .i64 1, .bool c] ++ fl2_1)) ⟨setG (glM m ++ rw2_1), 2033⟩)) = true
theorem tk1_1_false : TailK1 1 false := fun m => by kernel_rfl
theorem tk1_1_true : TailK1 1 true := fun m => by kernel_rfl
theorem tk1_2_false : TailK1 2 false := fun m => by kernel_rfl
theorem tk1_2_true : TailK1 2 true := fun m => by kernel_rfl
theorem tk1_3_false : TailK1 3 false := fun m => by kernel_rfl
theorem tk1_3_true : TailK1 3 true := fun m => by kernel_rfl
theorem tk1_4_false : TailK1 4 false := fun m => by kernel_rfl
theorem tk1_4_true : TailK1 4 true := fun m => by kernel_rfl
theorem tk1_5_false : TailK1 5 false := fun m => by kernel_rfl
theorem tk1_5_true : TailK1 5 true := fun m => by kernel_rfl
theorem tk1_6_false : TailK1 6 false := fun m => by kernel_rfl
theorem tk1_6_true : TailK1 6 true := fun m => by kernel_rfl
theorem tk1_7_false : TailK1 7 false := fun m => by kernel_rfl
theorem tk1_7_true : TailK1 7 true := fun m => by kernel_rfl
theorem tk1_8_false : TailK1 8 false := fun m => by kernel_rfl
theorem tk1_8_true : TailK1 8 true := fun m => by kernel_rfl
end Go.Proofs.YtdfkjafndhfljaaGreatDoor

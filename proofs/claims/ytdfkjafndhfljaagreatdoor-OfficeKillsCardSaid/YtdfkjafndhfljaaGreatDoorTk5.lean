/- What is proved: the rest of OfficeKills returns true, at some numbers. -/
import Derived.Test.YtdfkjafndhfljaaGreatDoorSnD
set_option linter.unusedVariables false
set_option linter.unusedSimpArgs false
namespace Go.Proofs.YtdfkjafndhfljaaGreatDoor
open Go Go.RowKit Go.Fw Go.Ev
set_option maxRecDepth 100000
def TailK5 (a : Int) (c : Bool) : Prop := ∀ m : Int, okE (endC Tryz.prog Tryz.f4 (run Tryz.prog smK 100000 158 tC (setF ([0, 1, 2].zip [AV.int .i64 a, .int .i64 5, .bool c] ++ fl2_5)) ⟨setG (glM m ++ rw2_5), 2033⟩)) = true
theorem tk5_1_false : TailK5 1 false := fun m => by kernel_rfl
theorem tk5_1_true : TailK5 1 true := fun m => by kernel_rfl
theorem tk5_2_false : TailK5 2 false := fun m => by kernel_rfl
theorem tk5_2_true : TailK5 2 true := fun m => by kernel_rfl
theorem tk5_3_false : TailK5 3 false := fun m => by kernel_rfl
theorem tk5_3_true : TailK5 3 true := fun m => by kernel_rfl
theorem tk5_4_false : TailK5 4 false := fun m => by kernel_rfl
theorem tk5_4_true : TailK5 4 true := fun m => by kernel_rfl
theorem tk5_5_false : TailK5 5 false := fun m => by kernel_rfl
theorem tk5_5_true : TailK5 5 true := fun m => by kernel_rfl
theorem tk5_6_false : TailK5 6 false := fun m => by kernel_rfl
theorem tk5_6_true : TailK5 6 true := fun m => by kernel_rfl
theorem tk5_7_false : TailK5 7 false := fun m => by kernel_rfl
theorem tk5_7_true : TailK5 7 true := fun m => by kernel_rfl
theorem tk5_8_false : TailK5 8 false := fun m => by kernel_rfl
theorem tk5_8_true : TailK5 8 true := fun m => by kernel_rfl
end Go.Proofs.YtdfkjafndhfljaaGreatDoor

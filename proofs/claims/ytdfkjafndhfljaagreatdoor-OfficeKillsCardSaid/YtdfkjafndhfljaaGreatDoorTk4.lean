/- What is proved: the rest of OfficeKills returns true, at some numbers. -/
import Derived.Test.YtdfkjafndhfljaaGreatDoorSnD
set_option linter.unusedVariables false
set_option linter.unusedSimpArgs false
namespace Go.Proofs.YtdfkjafndhfljaaGreatDoor
open Go Go.RowKit Go.Fw Go.Ev
set_option maxRecDepth 100000
def TailK4 (a : Int) (c : Bool) : Prop := ∀ m : Int, okE (endC Tryz.prog Tryz.f4 (run Tryz.prog smK 100000 158 tC (setF ([0, 1, 2].zip [AV.int .i64 a, .int .i64 4, .bool c] ++ fl2_4)) ⟨setG (glM m ++ rw2_4), 2033⟩)) = true
theorem tk4_1_false : TailK4 1 false := fun m => by kernel_rfl
theorem tk4_1_true : TailK4 1 true := fun m => by kernel_rfl
theorem tk4_2_false : TailK4 2 false := fun m => by kernel_rfl
theorem tk4_2_true : TailK4 2 true := fun m => by kernel_rfl
theorem tk4_3_false : TailK4 3 false := fun m => by kernel_rfl
theorem tk4_3_true : TailK4 3 true := fun m => by kernel_rfl
theorem tk4_4_false : TailK4 4 false := fun m => by kernel_rfl
theorem tk4_4_true : TailK4 4 true := fun m => by kernel_rfl
theorem tk4_5_false : TailK4 5 false := fun m => by kernel_rfl
theorem tk4_5_true : TailK4 5 true := fun m => by kernel_rfl
theorem tk4_6_false : TailK4 6 false := fun m => by kernel_rfl
theorem tk4_6_true : TailK4 6 true := fun m => by kernel_rfl
theorem tk4_7_false : TailK4 7 false := fun m => by kernel_rfl
theorem tk4_7_true : TailK4 7 true := fun m => by kernel_rfl
theorem tk4_8_false : TailK4 8 false := fun m => by kernel_rfl
theorem tk4_8_true : TailK4 8 true := fun m => by kernel_rfl
end Go.Proofs.YtdfkjafndhfljaaGreatDoor

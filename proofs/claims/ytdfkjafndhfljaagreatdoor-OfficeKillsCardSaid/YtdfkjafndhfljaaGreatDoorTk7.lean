/- What is proved: the rest of OfficeKills returns true, at some numbers. -/
import Derived.Test.YtdfkjafndhfljaaGreatDoorSnD
set_option linter.unusedVariables false
set_option linter.unusedSimpArgs false
namespace Go.Proofs.YtdfkjafndhfljaaGreatDoor
open Go Go.RowKit Go.Fw Go.Ev
set_option maxRecDepth 100000
def TailK7 (a : Int) (c : Bool) : Prop := ∀ m : Int, okE (endC Tryz.prog Tryz.f4 (run Tryz.prog smK 100000 158 tC (setF ([0, 1, 2].zip [AV.int .i64 a, .int .i64 7, .bool c] ++ fl2_7)) ⟨setG (glM m ++ rw2_7), 2033⟩)) = true
theorem tk7_1_false : TailK7 1 false := fun m => by kernel_rfl
theorem tk7_1_true : TailK7 1 true := fun m => by kernel_rfl
theorem tk7_2_false : TailK7 2 false := fun m => by kernel_rfl
theorem tk7_2_true : TailK7 2 true := fun m => by kernel_rfl
theorem tk7_3_false : TailK7 3 false := fun m => by kernel_rfl
theorem tk7_3_true : TailK7 3 true := fun m => by kernel_rfl
theorem tk7_4_false : TailK7 4 false := fun m => by kernel_rfl
theorem tk7_4_true : TailK7 4 true := fun m => by kernel_rfl
theorem tk7_5_false : TailK7 5 false := fun m => by kernel_rfl
theorem tk7_5_true : TailK7 5 true := fun m => by kernel_rfl
theorem tk7_6_false : TailK7 6 false := fun m => by kernel_rfl
theorem tk7_6_true : TailK7 6 true := fun m => by kernel_rfl
theorem tk7_7_false : TailK7 7 false := fun m => by kernel_rfl
theorem tk7_7_true : TailK7 7 true := fun m => by kernel_rfl
theorem tk7_8_false : TailK7 8 false := fun m => by kernel_rfl
theorem tk7_8_true : TailK7 8 true := fun m => by kernel_rfl
end Go.Proofs.YtdfkjafndhfljaaGreatDoor

/- What is proved: the rest of OfficeNone behind its guards returns true, at some numbers. -/
import Derived.Test.YtdfkjafndhfljaaGreatDoorTl
set_option linter.unusedVariables false
set_option linter.unusedSimpArgs false
namespace Go.Proofs.YtdfkjafndhfljaaGreatDoor
open Go Go.RowKit Go.Fw Go.Ev
set_option maxRecDepth 100000
theorem tail_neg (a : Nat) : TailOk (.negSucc a) := fun m vb => by kernel_rfl
theorem tail_0 : TailOk (0) := fun m vb => by kernel_rfl
theorem tail_big (a : Nat) : TailOk (.ofNat (a + 9)) := fun m vb => by kernel_rfl
end Go.Proofs.YtdfkjafndhfljaaGreatDoor

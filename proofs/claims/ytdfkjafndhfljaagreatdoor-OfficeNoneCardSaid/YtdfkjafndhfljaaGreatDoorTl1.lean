/- What is proved: the rest of OfficeNone behind its guards returns true, at some numbers. -/
import Derived.Test.YtdfkjafndhfljaaGreatDoorTl
set_option linter.unusedVariables false
set_option linter.unusedSimpArgs false
namespace Go.Proofs.YtdfkjafndhfljaaGreatDoor
open Go Go.RowKit Go.Fw Go.Ev
set_option maxRecDepth 100000
theorem tail_1 : TailOk (1) := fun m vb => by kernel_rfl
theorem tail_2 : TailOk (2) := fun m vb => by kernel_rfl
theorem tail_3 : TailOk (3) := fun m vb => by kernel_rfl
end Go.Proofs.YtdfkjafndhfljaaGreatDoor

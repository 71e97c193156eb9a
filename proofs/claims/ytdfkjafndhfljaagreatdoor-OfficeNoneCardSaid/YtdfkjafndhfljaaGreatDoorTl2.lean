/- What is proved: the rest of OfficeNone behind its guards returns true, at some numbers. -/
import Derived.Test.YtdfkjafndhfljaaGreatDoorTl
set_option linter.unusedVariables false
set_option linter.unusedSimpArgs false
namespace Go.Proofs.YtdfkjafndhfljaaGreatDoor
open Go Go.RowKit Go.Fw Go.Ev
set_option maxRecDepth 100000
theorem tail_4 : TailOk (4) := fun m vb => by kernel_rfl
theorem tail_5 : TailOk (5) := fun m vb => by kernel_rfl
theorem tail_6 : TailOk (6) := fun m vb => by kernel_rfl
end Go.Proofs.YtdfkjafndhfljaaGreatDoor

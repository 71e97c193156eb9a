/- What is proved: OfficeKills comes to the first state that is written down. -/
import Derived.Test.YtdfkjafndhfljaaGreatDoorSnD
set_option linter.unusedVariables false
set_option linter.unusedSimpArgs false
namespace Go.Proofs.YtdfkjafndhfljaaGreatDoor
open Go Go.RowKit Go.Fw Go.Ev
set_option maxRecDepth 100000
theorem sn1 (m x y : Int) (c : Bool) : snapL (runL Tryz.prog smK 100000 158 p1C (f0k x y c) (s0 (.int .i64 m))) fl1 rw1 1895 [0, 1, 2] = (true, [AV.int .i64 (E8 x), .int .i64 (E8 y), .bool c].map some) := by kernel_rfl
end Go.Proofs.YtdfkjafndhfljaaGreatDoor

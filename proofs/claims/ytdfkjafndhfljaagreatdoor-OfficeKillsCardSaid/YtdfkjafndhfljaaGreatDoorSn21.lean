/- What is proved: OfficeKills comes to the second state that is written down, number by number. -/
import Derived.Test.YtdfkjafndhfljaaGreatDoorSnD
set_option linter.unusedVariables false
set_option linter.unusedSimpArgs false
namespace Go.Proofs.YtdfkjafndhfljaaGreatDoor
open Go Go.RowKit Go.Fw Go.Ev
set_option maxRecDepth 100000
theorem sn2_5 (m z : Int) (c : Bool) : snapL (runL Tryz.prog smK 100000 158 p2C (setF ([0, 1, 2].zip [AV.int .i64 z, .int .i64 5, .bool c] ++ fl1)) ⟨setG (glM m ++ rw1), 1895⟩) fl2_5 rw2_5 2033 [0, 1, 2] = (true, [AV.int .i64 z, .int .i64 5, .bool c].map some) := by kernel_rfl
theorem sn2_6 (m z : Int) (c : Bool) : snapL (runL Tryz.prog smK 100000 158 p2C (setF ([0, 1, 2].zip [AV.int .i64 z, .int .i64 6, .bool c] ++ fl1)) ⟨setG (glM m ++ rw1), 1895⟩) fl2_6 rw2_6 2033 [0, 1, 2] = (true, [AV.int .i64 z, .int .i64 6, .bool c].map some) := by kernel_rfl
theorem sn2_7 (m z : Int) (c : Bool) : snapL (runL Tryz.prog smK 100000 158 p2C (setF ([0, 1, 2].zip [AV.int .i64 z, .int .i64 7, .bool c] ++ fl1)) ⟨setG (glM m ++ rw1), 1895⟩) fl2_7 rw2_7 2033 [0, 1, 2] = (true, [AV.int .i64 z, .int .i64 7, .bool c].map some) := by kernel_rfl
theorem sn2_8 (m z : Int) (c : Bool) : snapL (runL Tryz.prog smK 100000 158 p2C (setF ([0, 1, 2].zip [AV.int .i64 z, .int .i64 8, .bool c] ++ fl1)) ⟨setG (glM m ++ rw1), 1895⟩) fl2_8 rw2_8 2033 [0, 1, 2] = (true, [AV.int .i64 z, .int .i64 8, .bool c].map some) := by kernel_rfl
end Go.Proofs.YtdfkjafndhfljaaGreatDoor

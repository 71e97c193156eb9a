/- What is proved: OfficeKills comes to the second state that is written down, number by number. -/
import Derived.Test.YtdfkjafndhfljaaGreatDoorSnD
set_option linter.unusedVariables false
set_option linter.unusedSimpArgs false
namespace Go.Proofs.YtdfkjafndhfljaaGreatDoor
open Go Go.RowKit Go.Fw Go.Ev
set_option maxRecDepth 100000
theorem sn2_1 (m z : Int) (c : Bool) : snapL (runL Tryz.prog smK 100000 158 p2C (setF ([0, 1, 2].zip [AV.int .i64 z, .int .i64 1, .bool c] ++ fl1)) ⟨setG (glM m ++ rw1), 1895⟩) fl2_1 rw2_1 2033 [0, 1, 2] = (true, [AV.int .i64 z, .int .i64 1, .bool c].map some) := by kernel_rfl
theorem sn2_2 (m z : Int) (c : Bool) : snapL (runL Tryz.prog smK 100000 158 p2C (setF ([0, 1, 2].zip [AV.int .i64 z, .int .i64 2, .bool c] ++ fl1)) ⟨setG (glM m ++ rw1), 1895⟩) fl2_2 rw2_2 2033 [0, 1, 2] = (true, [AV.int .i64 z, .int .i64 2, .bool c].map some) := by kernel_rfl
theorem sn2_3 (m z : Int) (c : Bool) : snapL (runL Tryz.prog smK 100000 158 p2C (setF ([0, 1, 2].zip [AV.int .i64 z, .int .i64 3, .bool c] ++ fl1)) ⟨setG (glM m ++ rw1), 1895⟩) fl2_3 rw2_3 2033 [0, 1, 2] = (true, [AV.int .i64 z, .int .i64 3, .bool c].map some) := by kernel_rfl
theorem sn2_4 (m z : Int) (c : Bool) : snapL (runL Tryz.prog smK 100000 158 p2C (setF ([0, 1, 2].zip [AV.int .i64 z, .int .i64 4, .bool c] ++ fl1)) ⟨setG (glM m ++ rw1), 1895⟩) fl2_4 rw2_4 2033 [0, 1, 2] = (true, [AV.int .i64 z, .int .i64 4, .bool c].map some) := by kernel_rfl
end Go.Proofs.YtdfkjafndhfljaaGreatDoor

/- What is proved: the server's hello, at some sessions. -/
import Derived.Test.YtdfkjafndhfljaaGreatDoorLoc
set_option linter.unusedVariables false
set_option linter.unusedSimpArgs false
namespace Go.Proofs.YtdfkjafndhfljaaGreatDoor
open Go Go.RowKit Go.Fw Go.Ev
set_option maxRecDepth 100000
theorem h6_ev : retE (ev Tryz.prog smL 100000 18 [.int .i64 6] ⟨setG tabL, 1000⟩) h6.r = true := by kernel_rfl
theorem h6_known : KnownC Tryz.prog tabL h6 := known_ev prOk smL_ok okTab (by kernel_rfl) Tryz.ok18 h6_ev
theorem h7_ev : retE (ev Tryz.prog smL 100000 18 [.int .i64 7] ⟨setG tabL, 1000⟩) h7.r = true := by kernel_rfl
theorem h7_known : KnownC Tryz.prog tabL h7 := known_ev prOk smL_ok okTab (by kernel_rfl) Tryz.ok18 h7_ev
theorem h8_ev : retE (ev Tryz.prog smL 100000 18 [.int .i64 8] ⟨setG tabL, 1000⟩) h8.r = true := by kernel_rfl
theorem h8_known : KnownC Tryz.prog tabL h8 := known_ev prOk smL_ok okTab (by kernel_rfl) Tryz.ok18 h8_ev
end Go.Proofs.YtdfkjafndhfljaaGreatDoor

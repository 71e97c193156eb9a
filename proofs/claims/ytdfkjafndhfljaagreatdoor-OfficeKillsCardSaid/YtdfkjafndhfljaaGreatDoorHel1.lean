/- What is proved: the server's hello, at some sessions. -/
import Derived.Test.YtdfkjafndhfljaaGreatDoorLoc
set_option linter.unusedVariables false
set_option linter.unusedSimpArgs false
namespace Go.Proofs.YtdfkjafndhfljaaGreatDoor
open Go Go.RowKit Go.Fw Go.Ev
set_option maxRecDepth 100000
theorem h3_ev : retE (ev Tryz.prog smL 100000 18 [.int .i64 3] ⟨setG tabL, 1000⟩) h3.r = true := by kernel_rfl
theorem h3_known : KnownC Tryz.prog tabL h3 := known_ev prOk smL_ok okTab (by kernel_rfl) Tryz.ok18 h3_ev
theorem h4_ev : retE (ev Tryz.prog smL 100000 18 [.int .i64 4] ⟨setG tabL, 1000⟩) h4.r = true := by kernel_rfl
theorem h4_known : KnownC Tryz.prog tabL h4 := known_ev prOk smL_ok okTab (by kernel_rfl) Tryz.ok18 h4_ev
theorem h5_ev : retE (ev Tryz.prog smL 100000 18 [.int .i64 5] ⟨setG tabL, 1000⟩) h5.r = true := by kernel_rfl
theorem h5_known : KnownC Tryz.prog tabL h5 := known_ev prOk smL_ok okTab (by kernel_rfl) Tryz.ok18 h5_ev
end Go.Proofs.YtdfkjafndhfljaaGreatDoor

/- What is proved: the server's hello, at some sessions. -/
import Derived.Test.YtdfkjafndhfljaaGreatDoorLoc
set_option linter.unusedVariables false
set_option linter.unusedSimpArgs false
namespace Go.Proofs.YtdfkjafndhfljaaGreatDoor
open Go Go.RowKit Go.Fw Go.Ev
set_option maxRecDepth 100000
theorem h0_ev : retE (ev Tryz.prog smL 100000 18 [.int .i64 0] ⟨setG tabL, 1000⟩) h0.r = true := by kernel_rfl
theorem h0_known : KnownC Tryz.prog tabL h0 := known_ev prOk smL_ok okTab (by kernel_rfl) Tryz.ok18 h0_ev
theorem h1_ev : retE (ev Tryz.prog smL 100000 18 [.int .i64 1] ⟨setG tabL, 1000⟩) h1.r = true := by kernel_rfl
theorem h1_known : KnownC Tryz.prog tabL h1 := known_ev prOk smL_ok okTab (by kernel_rfl) Tryz.ok18 h1_ev
theorem h2_ev : retE (ev Tryz.prog smL 100000 18 [.int .i64 2] ⟨setG tabL, 1000⟩) h2.r = true := by kernel_rfl
theorem h2_known : KnownC Tryz.prog tabL h2 := known_ev prOk smL_ok okTab (by kernel_rfl) Tryz.ok18 h2_ev
end Go.Proofs.YtdfkjafndhfljaaGreatDoor

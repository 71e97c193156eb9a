/- What is proved: the hash of a vault's half. -/
import Derived.Test.YtdfkjafndhfljaaGreatDoorLoc
set_option linter.unusedVariables false
set_option linter.unusedSimpArgs false
namespace Go.Proofs.YtdfkjafndhfljaaGreatDoor
open Go Go.RowKit Go.Fw Go.Ev
set_option maxRecDepth 100000
theorem sum1_ev : retS (ev Tryz.prog smL 100000 169 [.sl 1000 0 16 (.u 1)] (sLoc tabL sum1.row)) sum1.r sum1.row = true := by kernel_rfl
theorem sum1_known : KnownS Tryz.prog tabL sum1 := knownS_ev prOk smL_ok (by kernel_rfl) Tryz.ok169 sum1_ev
end Go.Proofs.YtdfkjafndhfljaaGreatDoor

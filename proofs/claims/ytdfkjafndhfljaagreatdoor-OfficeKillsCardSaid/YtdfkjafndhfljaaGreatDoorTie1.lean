/- What is proved: the run that lays the tables ends. -/
import Derived.Test.YtdfkjafndhfljaaGreatDoorTie0
namespace Go.Proofs.YtdfkjafndhfljaaGreatDoor
open Go
theorem tie_d : ∀ os tape, varsDone Tryz.prog 400 (varsId Tryz.prog) os tape = true := fun _ _ => by kernel_rfl
end Go.Proofs.YtdfkjafndhfljaaGreatDoor

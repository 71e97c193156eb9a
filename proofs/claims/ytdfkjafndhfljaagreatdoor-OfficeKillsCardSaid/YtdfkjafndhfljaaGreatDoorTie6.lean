/- What is proved: the tables lie in plain rows. -/
import Derived.Test.YtdfkjafndhfljaaGreatDoorTie0
import Derived.LaidLaws
namespace Go.Proofs.YtdfkjafndhfljaaGreatDoor
open Go
theorem tie_2b : ∀ os tape, (DataW.laidRun Tryz.prog (varsWorld Tryz.prog 400 (varsId Tryz.prog) os tape).memory 8 (tieL.map (·.1))).map (fun x => laidRowsB Tryz.prog (varsWorld Tryz.prog 400 (varsId Tryz.prog) os tape).memory x.2) = some true := fun _ _ => by kernel_rfl
end Go.Proofs.YtdfkjafndhfljaaGreatDoor

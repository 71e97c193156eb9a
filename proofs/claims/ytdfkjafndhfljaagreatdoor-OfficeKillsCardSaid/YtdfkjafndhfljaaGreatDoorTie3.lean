/- What is proved: the tables lie in rows of their own. -/
import Derived.Test.YtdfkjafndhfljaaGreatDoorTie5
import Derived.Test.YtdfkjafndhfljaaGreatDoorTie6
import Derived.LaidLaws
namespace Go.Proofs.YtdfkjafndhfljaaGreatDoor
open Go
theorem tie_2 : ∀ os tape, (DataW.laidRun Tryz.prog (varsWorld Tryz.prog 400 (varsId Tryz.prog) os tape).memory 8 (tieL.map (·.1))).map (fun x => decide x.2.Nodup && laidRowsB Tryz.prog (varsWorld Tryz.prog 400 (varsId Tryz.prog) os tape).memory x.2) = some true := fun os tape => by
  have h1 := tie_2a os tape
  have h2 := tie_2b os tape
  generalize (DataW.laidRun Tryz.prog (varsWorld Tryz.prog 400 (varsId Tryz.prog) os tape).memory 8 (tieL.map (·.1))) = r at h1 h2
  cases r with
  | none => cases h1
  | some x =>
    simp only [Option.map_some, Option.some.injEq] at h1 h2 ⊢
    rw [h2, decide_eq_true (nodupB_spec _ _ h1).1]
    rfl
end Go.Proofs.YtdfkjafndhfljaaGreatDoor

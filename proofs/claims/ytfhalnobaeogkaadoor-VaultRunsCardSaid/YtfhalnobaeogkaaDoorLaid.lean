/- What is proved: the tables that every row of this seat lists lie in memory, cell by cell. -/
import Derived.Test.YtfhalnobaeogkaaDoorProg
import Derived.Test.YtfhalnobaeogkaaDoorFwSep
import Derived.KernelRfl
import Derived.Test.YtfhalnobaeogkaaDoorRows
import Derived.Test.YtfhalnobaeogkaaDoorFwApp
import Derived.Test.YtfhalnobaeogkaaDoorFwWord
import Derived.Test.YtfhalnobaeogkaaDoorDig
import Derived.Test.YtfhalnobaeogkaaDoorFwLaid
set_option linter.unusedVariables false
set_option linter.unusedSimpArgs false
namespace Go.Proofs.YtfhalnobaeogkaaDoor
open Go Go.RowKit Go.Fw




abbrev laidL : List (String × DataW Unit) := [("tabulary/digest.steps", Rows.laid_tabulary_digest_steps), ("tabulary/digest.starts", Rows.laid_tabulary_digest_starts)]
theorem gSteps : Tryd.prog.globalNamed "tabulary/digest.steps" = some 1 := by kernel_rfl
theorem gStarts : Tryd.prog.globalNamed "tabulary/digest.starts" = some 0 := by kernel_rfl
theorem tSteps : (Tryd.prog.globals[1]?).map (·.type) = some 150 := by kernel_rfl
theorem tStarts : (Tryd.prog.globals[0]?).map (·.type) = some 148 := by kernel_rfl
theorem eSteps {H : Type} : (Rows.laid_tabulary_digest_steps : DataW H) = .agg (stepsL.map fun x => .lit (.int .u64 (x.toNat : Int))) := by kernel_rfl
theorem eStarts {H : Type} : (Rows.laid_tabulary_digest_starts : DataW H) = .agg (startsL.map fun x => .lit (.int .u64 (x.toNat : Int))) := by kernel_rfl
theorem door_met (os : Os) (args : Array Value) : laidMetH Tryd.prog laidL ((World.doorLaid Tryd.prog 19 os).forCall (fun _ _ => 0) ⟨#[], args, []⟩).memory :=
  laidMetH_of_parts3 (fuel := 8) (laidMet_of_run' 8 (by kernel_rfl) (by kernel_rfl)) (by kernel_rfl) (by kernel_rfl)
theorem glob_of_laid {W : World} (h : laidMetH Tryd.prog laidL W) : Glob W := by
  rw [MakeChecks.laidMetH_plain _ _ _ (by kernel_rfl)] at h
  obtain ⟨ps, ⟨g0, t0, cs0, f0, p0, q0, hg0, ht0, hv0, hd0, ⟨g1, t1, cs1, f1, p1, q1, hg1, ht1, hv1, hd1, _, _⟩, _⟩, _, _⟩ := h
  obtain rfl := Option.some.inj (gSteps.symm.trans hg0)
  obtain rfl := Option.some.inj (gStarts.symm.trans hg1)
  obtain rfl := Option.some.inj (tSteps.symm.trans ht0)
  obtain rfl := Option.some.inj (tStarts.symm.trans ht1)
  rw [eSteps] at hd0
  rw [eStarts] at hd1
  refine ⟨fun i hi => ?_, fun i hi => ?_⟩
  · have := table_u64 Tryd.underlying148 Tryd.underlying76 (by kernel_rfl) rfl hd1 i hi
    have h2 := World.var?_cell hg1 hv1 i
    rw [h2]
    simpa using this
  · have := table_u64 Tryd.underlying150 Tryd.underlying76 (by kernel_rfl) rfl hd0 i hi
    have h2 := World.var?_cell hg0 hv0 i
    rw [h2]
    simpa using this



end Go.Proofs.YtfhalnobaeogkaaDoor

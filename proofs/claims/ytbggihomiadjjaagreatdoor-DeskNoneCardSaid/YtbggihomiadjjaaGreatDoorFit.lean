/- What is proved: the fit of the law's package returns true, and leaves memory that was there as it was. -/
import Derived.Test.YtbggihomiadjjaaGreatDoorGlb
set_option linter.unusedVariables false
set_option linter.unusedSimpArgs false
namespace Go.Proofs.YtbggihomiadjjaaGreatDoor
open Go Go.RowKit Go.Fw Go.Ev
set_option maxRecDepth 100000
theorem fit_ev : okE (ev Tryz.prog sm0 100000 4 [] s0) = true := by kernel_rfl
theorem Tryz.ok4 : CallOk Tryz.prog 4 := ⟨_, Tryz.func4, by kernel_rfl, by kernel_rfl⟩
theorem fit_ok {W : World} (hL : laidMetH Tryz.prog laidL W) {w : World} (hx : Ext W w) : Calls Tryz.prog 4 #[] w fun e w' => e = .returned (.bool true) ∧ Ext w w' :=
  ev_true (vs := []) prOk sm0_ok fit_ev (Goes.ofExt (glob_rel hL) hx).rel s0_low rfl
end Go.Proofs.YtbggihomiadjjaaGreatDoor

/- What is proved: what some calls return, and what they lay. -/
import Derived.Test.YtdfkjafndhfljaaGreatDoorRepD
set_option linter.unusedVariables false
set_option linter.unusedSimpArgs false
namespace Go.Proofs.YtdfkjafndhfljaaGreatDoor
open Go Go.RowKit Go.Fw Go.Ev
set_option maxRecDepth 100000
theorem kr2_ev : retR (ev Tryz.prog smL 100000 109 kr2.l ⟨setG [], 1000⟩) kr2.r kr2.rows kr2.cnt = true := by kernel_rfl
theorem kr2_known : KnownR Tryz.prog [] kr2 := knownR_ev prOk smL_ok okNil (by kernel_rfl) Tryz.okK109 kr2_ev
theorem kr4_ev : retR (ev Tryz.prog smL 100000 81 kr4.l ⟨setG [], 1000⟩) kr4.r kr4.rows kr4.cnt = true := by kernel_rfl
theorem kr4_known : KnownR Tryz.prog [] kr4 := knownR_ev prOk smL_ok okNil (by kernel_rfl) Tryz.okK81 kr4_ev
theorem kc18_ev : retE (ev Tryz.prog smL 100000 67 kc18.l ⟨setG tabL, 1000⟩) kc18.r = true := by kernel_rfl
theorem kc18_known : KnownC Tryz.prog tabL kc18 := known_ev prOk smL_ok okTab (by kernel_rfl) Tryz.okK67 kc18_ev
theorem kc22_ev : retE (ev Tryz.prog smL 100000 67 kc22.l ⟨setG tabL, 1000⟩) kc22.r = true := by kernel_rfl
theorem kc22_known : KnownC Tryz.prog tabL kc22 := known_ev prOk smL_ok okTab (by kernel_rfl) Tryz.okK67 kc22_ev
theorem kc2_ev : retE (ev Tryz.prog smL 100000 125 kc2.l ⟨setG [], 1000⟩) kc2.r = true := by kernel_rfl
theorem kc2_known : KnownC Tryz.prog [] kc2 := known_ev prOk smL_ok okNil (by kernel_rfl) Tryz.okK125 kc2_ev
theorem kc5_ev : retE (ev Tryz.prog smL 100000 125 kc5.l ⟨setG [], 1000⟩) kc5.r = true := by kernel_rfl
theorem kc5_known : KnownC Tryz.prog [] kc5 := known_ev prOk smL_ok okNil (by kernel_rfl) Tryz.okK125 kc5_ev
theorem kc9_ev : retE (ev Tryz.prog smL 100000 125 kc9.l ⟨setG [], 1000⟩) kc9.r = true := by kernel_rfl
theorem kc9_known : KnownC Tryz.prog [] kc9 := known_ev prOk smL_ok okNil (by kernel_rfl) Tryz.okK125 kc9_ev
theorem kc13_ev : retE (ev Tryz.prog smL 100000 262 kc13.l ⟨setG [], 1000⟩) kc13.r = true := by kernel_rfl
theorem kc13_known : KnownC Tryz.prog [] kc13 := known_ev prOk smL_ok okNil (by kernel_rfl) Tryz.okK262 kc13_ev
end Go.Proofs.YtdfkjafndhfljaaGreatDoor

/- What is proved: what some calls return, and what they lay. -/
import Derived.Test.YtdfkjafndhfljaaGreatDoorRepD
set_option linter.unusedVariables false
set_option linter.unusedSimpArgs false
namespace Go.Proofs.YtdfkjafndhfljaaGreatDoor
open Go Go.RowKit Go.Fw Go.Ev
set_option maxRecDepth 100000
theorem kr13_ev : retR (ev Tryz.prog smL 100000 81 kr13.l ⟨setG [], 1000⟩) kr13.r kr13.rows kr13.cnt = true := by kernel_rfl
theorem kr13_known : KnownR Tryz.prog [] kr13 := knownR_ev prOk smL_ok okNil (by kernel_rfl) Tryz.okK81 kr13_ev
theorem kr7_ev : retR (ev Tryz.prog smL 100000 81 kr7.l ⟨setG [], 1000⟩) kr7.r kr7.rows kr7.cnt = true := by kernel_rfl
theorem kr7_known : KnownR Tryz.prog [] kr7 := knownR_ev prOk smL_ok okNil (by kernel_rfl) Tryz.okK81 kr7_ev
theorem kr10_ev : retR (ev Tryz.prog smL 100000 81 kr10.l ⟨setG [], 1000⟩) kr10.r kr10.rows kr10.cnt = true := by kernel_rfl
theorem kr10_known : KnownR Tryz.prog [] kr10 := knownR_ev prOk smL_ok okNil (by kernel_rfl) Tryz.okK81 kr10_ev
theorem kc15_ev : retE (ev Tryz.prog smL 100000 67 kc15.l ⟨setG tabL, 1000⟩) kc15.r = true := by kernel_rfl
theorem kc15_known : KnownC Tryz.prog tabL kc15 := known_ev prOk smL_ok okTab (by kernel_rfl) Tryz.okK67 kc15_ev
theorem kc19_ev : retE (ev Tryz.prog smL 100000 67 kc19.l ⟨setG tabL, 1000⟩) kc19.r = true := by kernel_rfl
theorem kc19_known : KnownC Tryz.prog tabL kc19 := known_ev prOk smL_ok okTab (by kernel_rfl) Tryz.okK67 kc19_ev
theorem kr14_ev : retR (ev Tryz.prog smL 100000 81 kr14.l ⟨setG [], 1000⟩) kr14.r kr14.rows kr14.cnt = true := by kernel_rfl
theorem kr14_known : KnownR Tryz.prog [] kr14 := knownR_ev prOk smL_ok okNil (by kernel_rfl) Tryz.okK81 kr14_ev
theorem kc7_ev : retE (ev Tryz.prog smL 100000 125 kc7.l ⟨setG [], 1000⟩) kc7.r = true := by kernel_rfl
theorem kc7_known : KnownC Tryz.prog [] kc7 := known_ev prOk smL_ok okNil (by kernel_rfl) Tryz.okK125 kc7_ev
theorem kc11_ev : retE (ev Tryz.prog smL 100000 16 kc11.l ⟨setG tabL, 1000⟩) kc11.r = true := by kernel_rfl
theorem kc11_known : KnownC Tryz.prog tabL kc11 := known_ev prOk smL_ok okTab (by kernel_rfl) Tryz.okK16 kc11_ev
theorem kr3_ev : retR (ev Tryz.prog smL 100000 81 kr3.l ⟨setG [], 1000⟩) kr3.r kr3.rows kr3.cnt = true := by kernel_rfl
theorem kr3_known : KnownR Tryz.prog [] kr3 := knownR_ev prOk smL_ok okNil (by kernel_rfl) Tryz.okK81 kr3_ev
end Go.Proofs.YtdfkjafndhfljaaGreatDoor

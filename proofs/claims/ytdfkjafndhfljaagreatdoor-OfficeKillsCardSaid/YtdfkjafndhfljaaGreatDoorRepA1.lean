/- What is proved: what some calls return, and what they lay. -/
import Derived.Test.YtdfkjafndhfljaaGreatDoorRepD
set_option linter.unusedVariables false
set_option linter.unusedSimpArgs false
namespace Go.Proofs.YtdfkjafndhfljaaGreatDoor
open Go Go.RowKit Go.Fw Go.Ev
set_option maxRecDepth 100000
theorem kr1_ev : retR (ev Tryz.prog smL 100000 109 kr1.l ⟨setG [], 1000⟩) kr1.r kr1.rows kr1.cnt = true := by kernel_rfl
theorem kr1_known : KnownR Tryz.prog [] kr1 := knownR_ev prOk smL_ok okNil (by kernel_rfl) Tryz.okK109 kr1_ev
theorem kr8_ev : retR (ev Tryz.prog smL 100000 81 kr8.l ⟨setG [], 1000⟩) kr8.r kr8.rows kr8.cnt = true := by kernel_rfl
theorem kr8_known : KnownR Tryz.prog [] kr8 := knownR_ev prOk smL_ok okNil (by kernel_rfl) Tryz.okK81 kr8_ev
theorem kr11_ev : retR (ev Tryz.prog smL 100000 81 kr11.l ⟨setG [], 1000⟩) kr11.r kr11.rows kr11.cnt = true := by kernel_rfl
theorem kr11_known : KnownR Tryz.prog [] kr11 := knownR_ev prOk smL_ok okNil (by kernel_rfl) Tryz.okK81 kr11_ev
theorem kc16_ev : retE (ev Tryz.prog smL 100000 67 kc16.l ⟨setG tabL, 1000⟩) kc16.r = true := by kernel_rfl
theorem kc16_known : KnownC Tryz.prog tabL kc16 := known_ev prOk smL_ok okTab (by kernel_rfl) Tryz.okK67 kc16_ev
theorem kc20_ev : retE (ev Tryz.prog smL 100000 67 kc20.l ⟨setG tabL, 1000⟩) kc20.r = true := by kernel_rfl
theorem kc20_known : KnownC Tryz.prog tabL kc20 := known_ev prOk smL_ok okTab (by kernel_rfl) Tryz.okK67 kc20_ev
theorem kr0_ev : retR (ev Tryz.prog smL 100000 109 kr0.l ⟨setG [], 1000⟩) kr0.r kr0.rows kr0.cnt = true := by kernel_rfl
theorem kr0_known : KnownR Tryz.prog [] kr0 := knownR_ev prOk smL_ok okNil (by kernel_rfl) Tryz.okK109 kr0_ev
theorem kc0_ev : retE (ev Tryz.prog smL 100000 116 kc0.l ⟨setG [], 1000⟩) kc0.r = true := by kernel_rfl
theorem kc0_known : KnownC Tryz.prog [] kc0 := known_ev prOk smL_ok okNil (by kernel_rfl) Tryz.okK116 kc0_ev
theorem kc3_ev : retE (ev Tryz.prog smL 100000 125 kc3.l ⟨setG [], 1000⟩) kc3.r = true := by kernel_rfl
theorem kc3_known : KnownC Tryz.prog [] kc3 := known_ev prOk smL_ok okNil (by kernel_rfl) Tryz.okK125 kc3_ev
theorem kc6_ev : retE (ev Tryz.prog smL 100000 125 kc6.l ⟨setG [], 1000⟩) kc6.r = true := by kernel_rfl
theorem kc6_known : KnownC Tryz.prog [] kc6 := known_ev prOk smL_ok okNil (by kernel_rfl) Tryz.okK125 kc6_ev
theorem kc10_ev : retE (ev Tryz.prog smL 100000 16 kc10.l ⟨setG tabL, 1000⟩) kc10.r = true := by kernel_rfl
theorem kc10_known : KnownC Tryz.prog tabL kc10 := known_ev prOk smL_ok okTab (by kernel_rfl) Tryz.okK16 kc10_ev
theorem kc14_ev : retE (ev Tryz.prog smL 100000 262 kc14.l ⟨setG [], 1000⟩) kc14.r = true := by kernel_rfl
theorem kc14_known : KnownC Tryz.prog [] kc14 := known_ev prOk smL_ok okNil (by kernel_rfl) Tryz.okK262 kc14_ev
end Go.Proofs.YtdfkjafndhfljaaGreatDoor

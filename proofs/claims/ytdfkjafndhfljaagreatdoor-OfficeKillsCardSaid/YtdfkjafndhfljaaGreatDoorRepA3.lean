/- What is proved: what some calls return, and what they lay. -/
import Derived.Test.YtdfkjafndhfljaaGreatDoorRepD
set_option linter.unusedVariables false
set_option linter.unusedSimpArgs false
namespace Go.Proofs.YtdfkjafndhfljaaGreatDoor
open Go Go.RowKit Go.Fw Go.Ev
set_option maxRecDepth 100000
theorem kr5_ev : retR (ev Tryz.prog smL 100000 81 kr5.l ⟨setG [], 1000⟩) kr5.r kr5.rows kr5.cnt = true := by kernel_rfl
theorem kr5_known : KnownR Tryz.prog [] kr5 := knownR_ev prOk smL_ok okNil (by kernel_rfl) Tryz.okK81 kr5_ev
theorem kr6_ev : retR (ev Tryz.prog smL 100000 81 kr6.l ⟨setG [], 1000⟩) kr6.r kr6.rows kr6.cnt = true := by kernel_rfl
theorem kr6_known : KnownR Tryz.prog [] kr6 := knownR_ev prOk smL_ok okNil (by kernel_rfl) Tryz.okK81 kr6_ev
theorem kr9_ev : retR (ev Tryz.prog smL 100000 81 kr9.l ⟨setG [], 1000⟩) kr9.r kr9.rows kr9.cnt = true := by kernel_rfl
theorem kr9_known : KnownR Tryz.prog [] kr9 := knownR_ev prOk smL_ok okNil (by kernel_rfl) Tryz.okK81 kr9_ev
theorem kr12_ev : retR (ev Tryz.prog smL 100000 81 kr12.l ⟨setG [], 1000⟩) kr12.r kr12.rows kr12.cnt = true := by kernel_rfl
theorem kr12_known : KnownR Tryz.prog [] kr12 := knownR_ev prOk smL_ok okNil (by kernel_rfl) Tryz.okK81 kr12_ev
theorem kc17_ev : retE (ev Tryz.prog smL 100000 67 kc17.l ⟨setG tabL, 1000⟩) kc17.r = true := by kernel_rfl
theorem kc17_known : KnownC Tryz.prog tabL kc17 := known_ev prOk smL_ok okTab (by kernel_rfl) Tryz.okK67 kc17_ev
theorem kc21_ev : retE (ev Tryz.prog smL 100000 67 kc21.l ⟨setG tabL, 1000⟩) kc21.r = true := by kernel_rfl
theorem kc21_known : KnownC Tryz.prog tabL kc21 := known_ev prOk smL_ok okTab (by kernel_rfl) Tryz.okK67 kc21_ev
theorem kc1_ev : retE (ev Tryz.prog smL 100000 125 kc1.l ⟨setG [], 1000⟩) kc1.r = true := by kernel_rfl
theorem kc1_known : KnownC Tryz.prog [] kc1 := known_ev prOk smL_ok okNil (by kernel_rfl) Tryz.okK125 kc1_ev
theorem kc4_ev : retE (ev Tryz.prog smL 100000 125 kc4.l ⟨setG [], 1000⟩) kc4.r = true := by kernel_rfl
theorem kc4_known : KnownC Tryz.prog [] kc4 := known_ev prOk smL_ok okNil (by kernel_rfl) Tryz.okK125 kc4_ev
theorem kc8_ev : retE (ev Tryz.prog smL 100000 125 kc8.l ⟨setG [], 1000⟩) kc8.r = true := by kernel_rfl
theorem kc8_known : KnownC Tryz.prog [] kc8 := known_ev prOk smL_ok okNil (by kernel_rfl) Tryz.okK125 kc8_ev
theorem kc12_ev : retE (ev Tryz.prog smL 100000 262 kc12.l ⟨setG [], 1000⟩) kc12.r = true := by kernel_rfl
theorem kc12_known : KnownC Tryz.prog [] kc12 := known_ev prOk smL_ok okNil (by kernel_rfl) Tryz.okK262 kc12_ev
end Go.Proofs.YtdfkjafndhfljaaGreatDoor

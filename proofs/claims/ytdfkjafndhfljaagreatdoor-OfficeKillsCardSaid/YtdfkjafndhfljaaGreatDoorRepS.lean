/- What is proved: the summaries of calls that are told once hold. -/
import Derived.Test.YtdfkjafndhfljaaGreatDoorRepA0
import Derived.Test.YtdfkjafndhfljaaGreatDoorRepA1
import Derived.Test.YtdfkjafndhfljaaGreatDoorRepA2
import Derived.Test.YtdfkjafndhfljaaGreatDoorRepA3
set_option linter.unusedVariables false
set_option linter.unusedSimpArgs false
namespace Go.Proofs.YtdfkjafndhfljaaGreatDoor
open Go Go.RowKit Go.Fw Go.Ev
set_option maxRecDepth 100000
def cTab1 : List En := [kc10, kc11, kc15, kc16, kc17, kc18, kc19, kc20, kc21, kc22]
def cTab0 : List En := [kc0, kc1, kc2, kc3, kc4, kc5, kc6, kc7, kc8, kc9, kc12, kc13, kc14]
def rTab : List EnR := [kr0, kr1, kr2, kr3, kr4, kr5, kr6, kr7, kr8, kr9, kr10, kr11, kr12, kr13, kr14]
theorem cTab1_known : ∀ e ∈ cTab1, KnownC Tryz.prog tabL e := fun e he => by
  simp only [cTab1, List.mem_cons, List.mem_nil_iff, or_false] at he
  rcases he with rfl | rfl | rfl | rfl | rfl | rfl | rfl | rfl | rfl | rfl
  · exact kc10_known
  · exact kc11_known
  · exact kc15_known
  · exact kc16_known
  · exact kc17_known
  · exact kc18_known
  · exact kc19_known
  · exact kc20_known
  · exact kc21_known
  · exact kc22_known
theorem cTab0_known : ∀ e ∈ cTab0, KnownC Tryz.prog [] e := fun e he => by
  simp only [cTab0, List.mem_cons, List.mem_nil_iff, or_false] at he
  rcases he with rfl | rfl | rfl | rfl | rfl | rfl | rfl | rfl | rfl | rfl | rfl | rfl | rfl
  · exact kc0_known
  · exact kc1_known
  · exact kc2_known
  · exact kc3_known
  · exact kc4_known
  · exact kc5_known
  · exact kc6_known
  · exact kc7_known
  · exact kc8_known
  · exact kc9_known
  · exact kc12_known
  · exact kc13_known
  · exact kc14_known
theorem rTab_known : ∀ e ∈ rTab, KnownR Tryz.prog [] e := fun e he => by
  simp only [rTab, List.mem_cons, List.mem_nil_iff, or_false] at he
  rcases he with rfl | rfl | rfl | rfl | rfl | rfl | rfl | rfl | rfl | rfl | rfl | rfl | rfl | rfl | rfl
  · exact kr0_known
  · exact kr1_known
  · exact kr2_known
  · exact kr3_known
  · exact kr4_known
  · exact kr5_known
  · exact kr6_known
  · exact kr7_known
  · exact kr8_known
  · exact kr9_known
  · exact kr10_known
  · exact kr11_known
  · exact kr12_known
  · exact kr13_known
  · exact kr14_known
noncomputable def smK (k : Nat) (l : List AV) (s : S) : R := bif Nat.beq k 16 then smC tabL cTab1 k l s else bif Nat.beq k 67 then smC tabL cTab1 k l s else bif Nat.beq k 116 then smC [] cTab0 k l s else bif Nat.beq k 125 then smC [] cTab0 k l s else bif Nat.beq k 262 then smC [] cTab0 k l s else bif Nat.beq k 81 then smR [] rTab k l s else bif Nat.beq k 109 then smR [] rTab k l s else smF k l s
theorem smK_ok : CallS Tryz.prog smK := by
  have h1 := smC_ok okTab cTab1_known
  have h0 := smC_ok okNil cTab0_known
  have hr := smR_ok okNil rTab_known
  intro k l s r s' h
  unfold smK at h
  rw [cbeq] at h
  split at h
  · exact h1 k l s r s' h
  rw [cbeq] at h
  split at h
  · exact h1 k l s r s' h
  rw [cbeq] at h
  split at h
  · exact h0 k l s r s' h
  rw [cbeq] at h
  split at h
  · exact h0 k l s r s' h
  rw [cbeq] at h
  split at h
  · exact h0 k l s r s' h
  rw [cbeq] at h
  split at h
  · exact hr k l s r s' h
  rw [cbeq] at h
  split at h
  · exact hr k l s r s' h
  exact smF_ok k l s r s' h
end Go.Proofs.YtdfkjafndhfljaaGreatDoor

/- What is proved: the fit of the law's package returns true, and leaves memory that was there as it was. -/
import Derived.Test.YtdfkjafndhfljaaGreatDoorHel0
import Derived.Test.YtdfkjafndhfljaaGreatDoorHel1
import Derived.Test.YtdfkjafndhfljaaGreatDoorHel2
import Derived.Test.YtdfkjafndhfljaaGreatDoorSum1
set_option linter.unusedVariables false
set_option linter.unusedSimpArgs false
namespace Go.Proofs.YtdfkjafndhfljaaGreatDoor
open Go Go.RowKit Go.Fw Go.Ev
set_option maxRecDepth 100000
def helTab : List En := [h0, h1, h2, h3, h4, h5, h6, h7, h8]
noncomputable def smF (k : Nat) (l : List AV) (s : S) : R := bif Nat.beq k 18 then smC tabL helTab k l s else bif Nat.beq k 169 then smS tabL [sum1] k l s else smL k l s
theorem smF_ok : CallS Tryz.prog smF := by
  have hC : CallS Tryz.prog (smC tabL helTab) := smC_ok okTab fun e he => by
    simp only [helTab, List.mem_cons, List.mem_nil_iff, or_false] at he
    rcases he with rfl | rfl | rfl | rfl | rfl | rfl | rfl | rfl | rfl
    · exact h0_known
    · exact h1_known
    · exact h2_known
    · exact h3_known
    · exact h4_known
    · exact h5_known
    · exact h6_known
    · exact h7_known
    · exact h8_known
  have hS : CallS Tryz.prog (smS tabL [sum1]) := smS_ok okTab fun e he => by
    rw [List.mem_singleton] at he
    subst he
    exact sum1_known
  intro k l s r s' h
  unfold smF at h
  rw [cbeq] at h
  split at h
  · exact hC k l s r s' h
  · rw [cbeq] at h
    split at h
    · exact hS k l s r s' h
    · exact smL_ok k l s r s' h
theorem fit_ev (m : Int) : okE (ev Tryz.prog smF 100000 5 [] (s0 (.int .i64 m))) = true := by kernel_rfl
theorem Tryz.ok5 : CallOk Tryz.prog 5 := ⟨_, Tryz.func5, by kernel_rfl, by kernel_rfl⟩
theorem fit_ok {W : World} (hL : laidMetH Tryz.prog laidL W) {m : Int} (hm : MaxAt W m) {w : World} (hx : Ext W w) : Calls Tryz.prog 5 #[] w fun e w' => e = .returned (.bool true) ∧ Ext w w' :=
  ev_true (vs := []) prOk smF_ok Tryz.ok5 (fit_ev m) (Goes.ofExt (glob_rel hL hm) hx).rel (s0_low _) rfl
end Go.Proofs.YtdfkjafndhfljaaGreatDoor

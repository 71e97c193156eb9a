/- What is proved: the card's closed facts, one by one (in one piece they want more memory than the bound). -/
import Derived.Test.YtdfkjafndhfljaaGreatDoorRows
import Derived.Test.YtdfkjafndhfljaaGreatDoorCards
import Derived.SevenTiedAt
import Derived.KernelRfl
set_option linter.unusedVariables false
set_option linter.unusedSimpArgs false
namespace Go.Proofs.YtdfkjafndhfljaaGreatDoor
open Go
theorem ck_wf : Rows.officeKillsRow.wfByText (OpenSpec.ofChange Rows.officeKillsSpec) = true := by kernel_rfl
theorem ck_main : Tryz.pinned.checked.prog.mainIs = some (true, "a708b97d8264859db57ee89335a7be16630356f32a05220e265c3816f8a91f49".toList) := by kernel_rfl
theorem ck_named : Tryz.pinned.checked.prog.funcNamed Rows.officeKillsRow.func = some 4 := by kernel_rfl
theorem ck_looks : true = Tryz.pinned.checked.prog.looks [] := by kernel_rfl
theorem ck_stand : ([3, 3, 4].all fun u => !Tryz.pinned.checked.prog.wantsStandIn u) = true := by kernel_rfl
theorem goesK_all : Tryz.pinned.checked.prog.funcs.any Func.goes = false := by kernel_rfl
theorem goesK_none {P : Program} (h : P.funcs.any Func.goes = false) (f : FuncId) : P.goes f = false := by
  have h1 : ∀ g : Nat, (P.funcs[g]?).any Func.goes = false := fun g => by
    cases hg : P.funcs[g]? with
    | none => rfl
    | some fn =>
      rw [← Array.any_toList, List.any_eq_false] at h
      have hm : fn ∈ P.funcs.toList := by
        rw [← Array.getElem?_toList] at hg
        exact List.mem_of_getElem? hg
      have := h fn hm
      simpa using this
  unfold Program.goes
  rw [h, Bool.and_false, Bool.or_false]
  simp [h1]
theorem ck_goes : false = Rows.officeKillsRow.goesBy Tryz.pinned.checked.prog := by
  unfold OpenClaim.goesBy Program.goesAt Program.goesFrom
  cases h : Tryz.pinned.checked.prog.funcNamed Rows.officeKillsRow.func with
  | none => rfl
  | some f =>
    rw [Option.any_some, goesK_none goesK_all]
    rfl
end Go.Proofs.YtdfkjafndhfljaaGreatDoor

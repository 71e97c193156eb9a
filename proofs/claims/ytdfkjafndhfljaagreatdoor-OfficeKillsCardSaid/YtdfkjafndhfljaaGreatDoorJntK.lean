/- What is proved: the row's closed cells are what the program forces, fact by fact (in one piece they want more memory than the bound). -/
import Derived.Test.YtdfkjafndhfljaaGreatDoorRows
import Derived.JoinedOf
import Derived.KernelRfl
namespace Go.Proofs.YtdfkjafndhfljaaGreatDoor
open Go
theorem officeKills_inPlace : (Rows.officeKillsRow.inPlace == Tryz.pinned.checked.prog.inPlace 4) = true := by kernel_rfl
theorem officeKills_unfollowed : (Rows.officeKillsRow.unfollowed == Tryz.pinned.checked.prog.unfollowed 4) = true := by kernel_rfl
theorem officeKills_recurses : (Rows.officeKillsRow.recurses == Tryz.pinned.checked.prog.recurses 4) = true := by kernel_rfl
theorem officeKills_named : (Rows.officeKillsRow.named == Tryz.pinned.checked.prog.varsNamed 4) = true := by kernel_rfl
theorem officeKills_closed : joinedFacts Tryz.pinned.checked.prog 4 Tryz.f4 Rows.officeKillsSpec Rows.officeKillsRow = true := by
  unfold joinedFacts
  rw [officeKills_inPlace, officeKills_unfollowed, officeKills_recurses, officeKills_named]
  kernel_rfl
end Go.Proofs.YtdfkjafndhfljaaGreatDoor

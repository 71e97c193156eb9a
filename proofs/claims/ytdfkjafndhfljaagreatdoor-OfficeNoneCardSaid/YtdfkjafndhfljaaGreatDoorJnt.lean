/- What is proved: the row's closed cells are what the program forces, fact by fact (in one piece they want more memory than the bound). -/
import Derived.Test.YtdfkjafndhfljaaGreatDoorRows
import Derived.JoinedOf
import Derived.KernelRfl
namespace Go.Proofs.YtdfkjafndhfljaaGreatDoor
open Go
theorem officeNone_inPlace : (Rows.officeNoneRow.inPlace == Tryz.pinned.checked.prog.inPlace 3) = true := by kernel_rfl
theorem officeNone_unfollowed : (Rows.officeNoneRow.unfollowed == Tryz.pinned.checked.prog.unfollowed 3) = true := by kernel_rfl
theorem officeNone_recurses : (Rows.officeNoneRow.recurses == Tryz.pinned.checked.prog.recurses 3) = true := by kernel_rfl
theorem officeNone_named : (Rows.officeNoneRow.named == Tryz.pinned.checked.prog.varsNamed 3) = true := by kernel_rfl
theorem officeNone_closed : joinedFacts Tryz.pinned.checked.prog 3 Tryz.f3 Rows.officeNoneSpec Rows.officeNoneRow = true := by
  unfold joinedFacts
  rw [officeNone_inPlace, officeNone_unfollowed, officeNone_recurses, officeNone_named]
  kernel_rfl
end Go.Proofs.YtdfkjafndhfljaaGreatDoor

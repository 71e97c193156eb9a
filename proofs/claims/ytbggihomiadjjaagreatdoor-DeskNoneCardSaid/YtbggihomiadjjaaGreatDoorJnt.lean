/- What is proved: the row's closed cells are what the program forces, fact by fact (in one piece they want more memory than the bound). -/
import Derived.Test.YtbggihomiadjjaaGreatDoorRows
import Derived.JoinedOf
import Derived.KernelRfl
namespace Go.Proofs.YtbggihomiadjjaaGreatDoor
open Go
theorem deskNone_inPlace : (Rows.deskNoneRow.inPlace == Tryz.pinned.checked.prog.inPlace 3) = true := by kernel_rfl
theorem deskNone_unfollowed : (Rows.deskNoneRow.unfollowed == Tryz.pinned.checked.prog.unfollowed 3) = true := by kernel_rfl
theorem deskNone_recurses : (Rows.deskNoneRow.recurses == Tryz.pinned.checked.prog.recurses 3) = true := by kernel_rfl
theorem deskNone_named : (Rows.deskNoneRow.named == Tryz.pinned.checked.prog.varsNamed 3) = true := by kernel_rfl
theorem deskNone_closed : joinedFacts Tryz.pinned.checked.prog 3 Tryz.f3 Rows.deskNoneSpec Rows.deskNoneRow = true := by
  unfold joinedFacts
  rw [deskNone_inPlace, deskNone_unfollowed, deskNone_recurses, deskNone_named]
  kernel_rfl
end Go.Proofs.YtbggihomiadjjaaGreatDoor

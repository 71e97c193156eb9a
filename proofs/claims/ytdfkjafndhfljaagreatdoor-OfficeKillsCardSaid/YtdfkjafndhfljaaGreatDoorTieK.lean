/- What is proved: what the row of OfficeKills lists is laid by the program's text. -/
import Derived.Test.YtdfkjafndhfljaaGreatDoorTie4
namespace Go.Proofs.YtdfkjafndhfljaaGreatDoor
open Go
theorem officeKills_tie : Rows.officeKillsRow.laidByTextAt .later Tryz.pinned [.data, .data, .pinned, .data, .data, .data, .data, .data, .listed, .sentinel, .sentinel] true :=
  OpenClaim.laidByTextAt_pinned rfl rfl tie_all rfl rfl rfl rfl (fun y hy _e => by
    simp only [Rows.officeKillsRow, List.zip_cons_cons, List.zip_nil_right, List.mem_cons, List.mem_nil_iff, or_false] at hy
    rcases hy with rfl | rfl | rfl | rfl | rfl | rfl | rfl | rfl | rfl | rfl | rfl
    · cases _e
    · cases _e
    · exact ⟨pin_first, by kernel_rfl⟩
    · cases _e
    · cases _e
    · cases _e
    · cases _e
    · cases _e
    · cases _e
    · cases _e
    · cases _e) fits_all
end Go.Proofs.YtdfkjafndhfljaaGreatDoor

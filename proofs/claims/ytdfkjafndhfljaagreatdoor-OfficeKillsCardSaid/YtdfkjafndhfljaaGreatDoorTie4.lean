/- What is proved: the program's tables are laid by its text (fact by fact: in one piece they want more memory than the bound). -/
import Derived.Test.YtdfkjafndhfljaaGreatDoorTie1
import Derived.Test.YtdfkjafndhfljaaGreatDoorTie2
import Derived.Test.YtdfkjafndhfljaaGreatDoorTie3
namespace Go.Proofs.YtdfkjafndhfljaaGreatDoor
open Go
theorem tie_all : Tryz.prog.laidByTextLater tieL tieK true := Program.laidByTextLater_by_run 400 8 tie_w tie_w' tie_root tie_k tie_g tie_n tie_d tie_1 tie_2 tie_p
theorem pin_first : Tryz.pinned.checked.prog.pinnedFits "unicode/utf8.first" = true := by kernel_rfl
theorem no_unsafe : Tryz.pinned.checked.prog.headLifts.contains "ownunsafe" = false := by kernel_rfl
theorem fits_all : Tryz.pinned.checked.prog.listedFits [("tabulary/digest.starts", Rows.laid_tabulary_digest_starts), ("tabulary/digest.steps", Rows.laid_tabulary_digest_steps), ("unicode/utf8.first", Rows.laid_unicode_utf8_first), ("unicode/utf8.acceptRanges", Rows.laid_unicode_utf8_acceptRanges), ("internal/strconv.uint64pow10", Rows.laid_internal_strconv_uint64pow10), ("math/bits.deBruijn32tab", Rows.laid_math_bits_deBruijn32tab), ("math/bits.deBruijn64tab", Rows.laid_math_bits_deBruijn64tab), ("strings.asciiSpace", Rows.laid_strings_asciiSpace), ("unicode.White_Space", Rows.laid_unicode_White_Space), ("strconv.ErrSyntax", Rows.laid_strconv_ErrSyntax), ("strconv.ErrRange", Rows.laid_strconv_ErrRange)] = true := by
  unfold Program.listedFits
  rw [no_unsafe]
  kernel_rfl
theorem officeNone_tie : Rows.officeNoneRow.laidByTextAt .later Tryz.pinned [.data, .data, .pinned, .data, .data, .data, .data, .data, .listed, .sentinel, .sentinel] true :=
  OpenClaim.laidByTextAt_pinned rfl rfl tie_all rfl rfl rfl rfl (fun y hy _e => by
    simp only [Rows.officeNoneRow, List.zip_cons_cons, List.zip_nil_right, List.mem_cons, List.mem_nil_iff, or_false] at hy
    rcases hy with rfl | rfl | rfl | rfl | rfl | rfl | rfl | rfl | rfl | rfl | rfl
    · cases _e
    · cases _e
    · exact ⟨pin_first, by kernel_rfl⟩
    · cases _e
    · cases _e
    · cases _e
    · cases _e
    · cases _e
    · cases _e
    · cases _e
    · cases _e) fits_all
end Go.Proofs.YtdfkjafndhfljaaGreatDoor

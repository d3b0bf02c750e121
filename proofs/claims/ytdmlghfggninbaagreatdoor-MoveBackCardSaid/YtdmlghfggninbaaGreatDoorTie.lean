/-
  DERIVED. GIVEN WITH THE SEED: THE PROGRAM's TIES (one call each: nine closed facts by the kernel) AND EACH ROW's TIE, after the 31st guide's Derived/Test/Toyas{Tie, Card}.lean. No idea stands in it: it is a product of the set-up. Laid BY PROGRAM, IN A SANDBOX (cutbox-door.mjs). By AI agents, Wed Nov 11 2026. No macro, syntax, notation, axiom, sorry.
-/
import Derived.Test.YtdmlghfggninbaaGreatDoorRows
import Derived.LaidByTextLater
import Derived.SevenTiedAt
import Derived.LaidSub
import Derived.LaidOnce
namespace Go.Proofs.YtdmlghfggninbaaGreatDoor
open Go
set_option maxRecDepth 100000
theorem seatTie1 : Tryz.prog.laidByTextLater [("math/bits.deBruijn32tab", Rows.laid_math_bits_deBruijn32tab), ("math/bits.deBruijn64tab", Rows.laid_math_bits_deBruijn64tab), ("internal/strconv.uint64pow10", Rows.laid_internal_strconv_uint64pow10), ("unicode/utf8.acceptRanges", Rows.laid_unicode_utf8_acceptRanges), ("errors.errorType", Rows.laid_errors_errorType), ("cornbin/api.ErrText", Rows.laid_cornbin_api_ErrText), ("cornbin/api.ErrBound", Rows.laid_cornbin_api_ErrBound), ("cornbin/api.ErrShape", Rows.laid_cornbin_api_ErrShape), ("cornbin/api.ErrName", Rows.laid_cornbin_api_ErrName), ("cornbin/api.ErrNone", Rows.laid_cornbin_api_ErrNone), ("cornbin/api.ErrExist", Rows.laid_cornbin_api_ErrExist), ("cornbin/api.ErrFull", Rows.laid_cornbin_api_ErrFull), ("cornbin/api.ErrOrder", Rows.laid_cornbin_api_ErrOrder), ("cornbin/api.ErrSum", Rows.laid_cornbin_api_ErrSum), ("cornbin/api.ErrClash", Rows.laid_cornbin_api_ErrClash), ("cornbin/api.ErrUsed", Rows.laid_cornbin_api_ErrUsed), ("cornbin/api.ErrOff", Rows.laid_cornbin_api_ErrOff), ("strconv.ErrRange", Rows.laid_strconv_ErrRange), ("strconv.ErrSyntax", Rows.laid_strconv_ErrSyntax)] [.data, .data, .data, .data, .handle, .sentinel, .sentinel, .sentinel, .sentinel, .sentinel, .sentinel, .sentinel, .sentinel, .sentinel, .sentinel, .sentinel, .sentinel, .sentinel, .sentinel] true :=
  Program.laidByTextLater_by_one 307 8 65 (by kernel_rfl) (by kernel_rfl) (by kernel_rfl) (by kernel_rfl) (by kernel_rfl) (by kernel_rfl) (fun _ _ => by kernel_rfl)
theorem pin_laid_unicode_utf8_first : Tryz.pinned.checked.prog.pinnedFits "unicode/utf8.first" = true := by kernel_rfl
theorem noOwnUnsafe : Tryz.pinned.checked.prog.headLifts.contains "ownunsafe" = false := by kernel_rfl
theorem fits1 : Tryz.pinned.checked.prog.listedFits [("unicode/utf8.acceptRanges", Rows.laid_unicode_utf8_acceptRanges), ("errors.errorType", Rows.laid_errors_errorType), ("cornbin/api.ErrText", Rows.laid_cornbin_api_ErrText), ("cornbin/api.ErrBound", Rows.laid_cornbin_api_ErrBound), ("cornbin/api.ErrShape", Rows.laid_cornbin_api_ErrShape), ("cornbin/api.ErrName", Rows.laid_cornbin_api_ErrName), ("cornbin/api.ErrNone", Rows.laid_cornbin_api_ErrNone), ("cornbin/api.ErrExist", Rows.laid_cornbin_api_ErrExist), ("cornbin/api.ErrFull", Rows.laid_cornbin_api_ErrFull), ("cornbin/api.ErrOrder", Rows.laid_cornbin_api_ErrOrder), ("cornbin/api.ErrSum", Rows.laid_cornbin_api_ErrSum), ("cornbin/api.ErrClash", Rows.laid_cornbin_api_ErrClash), ("cornbin/api.ErrUsed", Rows.laid_cornbin_api_ErrUsed), ("cornbin/api.ErrOff", Rows.laid_cornbin_api_ErrOff), ("unicode/utf8.first", Rows.laid_unicode_utf8_first)] = true := by
  unfold Program.listedFits
  rw [noOwnUnsafe]
  kernel_rfl
theorem tie : Tryz.prog.laidByTextLater [("unicode/utf8.acceptRanges", Rows.laid_unicode_utf8_acceptRanges), ("errors.errorType", Rows.laid_errors_errorType), ("cornbin/api.ErrText", Rows.laid_cornbin_api_ErrText), ("cornbin/api.ErrBound", Rows.laid_cornbin_api_ErrBound), ("cornbin/api.ErrShape", Rows.laid_cornbin_api_ErrShape), ("cornbin/api.ErrName", Rows.laid_cornbin_api_ErrName), ("cornbin/api.ErrNone", Rows.laid_cornbin_api_ErrNone), ("cornbin/api.ErrExist", Rows.laid_cornbin_api_ErrExist), ("cornbin/api.ErrFull", Rows.laid_cornbin_api_ErrFull), ("cornbin/api.ErrOrder", Rows.laid_cornbin_api_ErrOrder), ("cornbin/api.ErrSum", Rows.laid_cornbin_api_ErrSum), ("cornbin/api.ErrClash", Rows.laid_cornbin_api_ErrClash), ("cornbin/api.ErrUsed", Rows.laid_cornbin_api_ErrUsed), ("cornbin/api.ErrOff", Rows.laid_cornbin_api_ErrOff)] [.data, .handle, .sentinel, .sentinel, .sentinel, .sentinel, .sentinel, .sentinel, .sentinel, .sentinel, .sentinel, .sentinel, .sentinel, .sentinel] true :=
  Program.laidByTextLater.sub seatTie1 ["unicode/utf8.acceptRanges", "errors.errorType", "cornbin/api.ErrText", "cornbin/api.ErrBound", "cornbin/api.ErrShape", "cornbin/api.ErrName", "cornbin/api.ErrNone", "cornbin/api.ErrExist", "cornbin/api.ErrFull", "cornbin/api.ErrOrder", "cornbin/api.ErrSum", "cornbin/api.ErrClash", "cornbin/api.ErrUsed", "cornbin/api.ErrOff"] (by kernel_rfl) (by kernel_rfl)
theorem nodeActs_row_tie : Rows.nodeActsRow.laidByTextAt .later Tryz.pinned [.data, .handle, .sentinel, .sentinel, .sentinel, .sentinel, .sentinel, .sentinel, .sentinel, .sentinel, .sentinel, .sentinel, .sentinel, .sentinel, .pinned] true :=
  OpenClaim.laidByTextAt_pinned rfl rfl tie rfl rfl rfl rfl (fun y hy _e => by
    simp only [Rows.nodeActsRow, List.zip_cons_cons, List.zip_nil_right, List.mem_cons, List.mem_nil_iff, or_false] at hy
    rcases hy with rfl | rfl | rfl | rfl | rfl | rfl | rfl | rfl | rfl | rfl | rfl | rfl | rfl | rfl | rfl
    · cases _e
    · cases _e
    · cases _e
    · cases _e
    · cases _e
    · cases _e
    · cases _e
    · cases _e
    · cases _e
    · cases _e
    · cases _e
    · cases _e
    · cases _e
    · cases _e
    · exact ⟨pin_laid_unicode_utf8_first, by kernel_rfl⟩) fits1
theorem fits2 : Tryz.pinned.checked.prog.listedFits [("math/bits.deBruijn32tab", Rows.laid_math_bits_deBruijn32tab), ("math/bits.deBruijn64tab", Rows.laid_math_bits_deBruijn64tab), ("internal/strconv.uint64pow10", Rows.laid_internal_strconv_uint64pow10), ("unicode/utf8.acceptRanges", Rows.laid_unicode_utf8_acceptRanges), ("errors.errorType", Rows.laid_errors_errorType), ("cornbin/api.ErrText", Rows.laid_cornbin_api_ErrText), ("cornbin/api.ErrBound", Rows.laid_cornbin_api_ErrBound), ("cornbin/api.ErrShape", Rows.laid_cornbin_api_ErrShape), ("cornbin/api.ErrName", Rows.laid_cornbin_api_ErrName), ("cornbin/api.ErrNone", Rows.laid_cornbin_api_ErrNone), ("cornbin/api.ErrExist", Rows.laid_cornbin_api_ErrExist), ("cornbin/api.ErrFull", Rows.laid_cornbin_api_ErrFull), ("cornbin/api.ErrOrder", Rows.laid_cornbin_api_ErrOrder), ("cornbin/api.ErrSum", Rows.laid_cornbin_api_ErrSum), ("cornbin/api.ErrClash", Rows.laid_cornbin_api_ErrClash), ("cornbin/api.ErrUsed", Rows.laid_cornbin_api_ErrUsed), ("cornbin/api.ErrOff", Rows.laid_cornbin_api_ErrOff), ("strconv.ErrRange", Rows.laid_strconv_ErrRange), ("strconv.ErrSyntax", Rows.laid_strconv_ErrSyntax), ("unicode/utf8.first", Rows.laid_unicode_utf8_first)] = true := by
  unfold Program.listedFits
  rw [noOwnUnsafe]
  kernel_rfl
theorem tie2 : Tryz.prog.laidByTextLater [("math/bits.deBruijn32tab", Rows.laid_math_bits_deBruijn32tab), ("math/bits.deBruijn64tab", Rows.laid_math_bits_deBruijn64tab), ("internal/strconv.uint64pow10", Rows.laid_internal_strconv_uint64pow10), ("unicode/utf8.acceptRanges", Rows.laid_unicode_utf8_acceptRanges), ("errors.errorType", Rows.laid_errors_errorType), ("cornbin/api.ErrText", Rows.laid_cornbin_api_ErrText), ("cornbin/api.ErrBound", Rows.laid_cornbin_api_ErrBound), ("cornbin/api.ErrShape", Rows.laid_cornbin_api_ErrShape), ("cornbin/api.ErrName", Rows.laid_cornbin_api_ErrName), ("cornbin/api.ErrNone", Rows.laid_cornbin_api_ErrNone), ("cornbin/api.ErrExist", Rows.laid_cornbin_api_ErrExist), ("cornbin/api.ErrFull", Rows.laid_cornbin_api_ErrFull), ("cornbin/api.ErrOrder", Rows.laid_cornbin_api_ErrOrder), ("cornbin/api.ErrSum", Rows.laid_cornbin_api_ErrSum), ("cornbin/api.ErrClash", Rows.laid_cornbin_api_ErrClash), ("cornbin/api.ErrUsed", Rows.laid_cornbin_api_ErrUsed), ("cornbin/api.ErrOff", Rows.laid_cornbin_api_ErrOff), ("strconv.ErrRange", Rows.laid_strconv_ErrRange), ("strconv.ErrSyntax", Rows.laid_strconv_ErrSyntax)] [.data, .data, .data, .data, .handle, .sentinel, .sentinel, .sentinel, .sentinel, .sentinel, .sentinel, .sentinel, .sentinel, .sentinel, .sentinel, .sentinel, .sentinel, .sentinel, .sentinel] true :=
  Program.laidByTextLater.sub seatTie1 ["math/bits.deBruijn32tab", "math/bits.deBruijn64tab", "internal/strconv.uint64pow10", "unicode/utf8.acceptRanges", "errors.errorType", "cornbin/api.ErrText", "cornbin/api.ErrBound", "cornbin/api.ErrShape", "cornbin/api.ErrName", "cornbin/api.ErrNone", "cornbin/api.ErrExist", "cornbin/api.ErrFull", "cornbin/api.ErrOrder", "cornbin/api.ErrSum", "cornbin/api.ErrClash", "cornbin/api.ErrUsed", "cornbin/api.ErrOff", "strconv.ErrRange", "strconv.ErrSyntax"] (by kernel_rfl) (by kernel_rfl)
theorem moveTells_row_tie : Rows.moveTellsRow.laidByTextAt .later Tryz.pinned [.data, .data, .data, .data, .handle, .sentinel, .sentinel, .sentinel, .sentinel, .sentinel, .sentinel, .sentinel, .sentinel, .sentinel, .sentinel, .sentinel, .sentinel, .sentinel, .sentinel, .pinned] true :=
  OpenClaim.laidByTextAt_pinned rfl rfl tie2 rfl rfl rfl rfl (fun y hy _e => by
    simp only [Rows.moveTellsRow, List.zip_cons_cons, List.zip_nil_right, List.mem_cons, List.mem_nil_iff, or_false] at hy
    rcases hy with rfl | rfl | rfl | rfl | rfl | rfl | rfl | rfl | rfl | rfl | rfl | rfl | rfl | rfl | rfl | rfl | rfl | rfl | rfl | rfl
    · cases _e
    · cases _e
    · cases _e
    · cases _e
    · cases _e
    · cases _e
    · cases _e
    · cases _e
    · cases _e
    · cases _e
    · cases _e
    · cases _e
    · cases _e
    · cases _e
    · cases _e
    · cases _e
    · cases _e
    · cases _e
    · cases _e
    · exact ⟨pin_laid_unicode_utf8_first, by kernel_rfl⟩) fits2
theorem moveBack_row_tie : Rows.moveBackRow.laidByTextAt .later Tryz.pinned [.data, .data, .data, .data, .handle, .sentinel, .sentinel, .sentinel, .sentinel, .sentinel, .sentinel, .sentinel, .sentinel, .sentinel, .sentinel, .sentinel, .sentinel, .sentinel, .sentinel, .pinned] true :=
  OpenClaim.laidByTextAt_pinned rfl rfl tie2 rfl rfl rfl rfl (fun y hy _e => by
    simp only [Rows.moveBackRow, List.zip_cons_cons, List.zip_nil_right, List.mem_cons, List.mem_nil_iff, or_false] at hy
    rcases hy with rfl | rfl | rfl | rfl | rfl | rfl | rfl | rfl | rfl | rfl | rfl | rfl | rfl | rfl | rfl | rfl | rfl | rfl | rfl | rfl
    · cases _e
    · cases _e
    · cases _e
    · cases _e
    · cases _e
    · cases _e
    · cases _e
    · cases _e
    · cases _e
    · cases _e
    · cases _e
    · cases _e
    · cases _e
    · cases _e
    · cases _e
    · cases _e
    · cases _e
    · cases _e
    · cases _e
    · exact ⟨pin_laid_unicode_utf8_first, by kernel_rfl⟩) fits2
theorem nodeActsUpto_row_tie : Rows.nodeActsUptoRow.laidByTextAt .later Tryz.pinned [.data, .handle, .sentinel, .sentinel, .sentinel, .sentinel, .sentinel, .sentinel, .sentinel, .sentinel, .sentinel, .sentinel, .sentinel, .sentinel, .pinned] true :=
  OpenClaim.laidByTextAt_pinned rfl rfl tie rfl rfl rfl rfl (fun y hy _e => by
    simp only [Rows.nodeActsUptoRow, List.zip_cons_cons, List.zip_nil_right, List.mem_cons, List.mem_nil_iff, or_false] at hy
    rcases hy with rfl | rfl | rfl | rfl | rfl | rfl | rfl | rfl | rfl | rfl | rfl | rfl | rfl | rfl | rfl
    · cases _e
    · cases _e
    · cases _e
    · cases _e
    · cases _e
    · cases _e
    · cases _e
    · cases _e
    · cases _e
    · cases _e
    · cases _e
    · cases _e
    · cases _e
    · cases _e
    · exact ⟨pin_laid_unicode_utf8_first, by kernel_rfl⟩) fits1
theorem moveTellsUpto_row_tie : Rows.moveTellsUptoRow.laidByTextAt .later Tryz.pinned [.data, .data, .data, .data, .handle, .sentinel, .sentinel, .sentinel, .sentinel, .sentinel, .sentinel, .sentinel, .sentinel, .sentinel, .sentinel, .sentinel, .sentinel, .sentinel, .sentinel, .pinned] true :=
  OpenClaim.laidByTextAt_pinned rfl rfl tie2 rfl rfl rfl rfl (fun y hy _e => by
    simp only [Rows.moveTellsUptoRow, List.zip_cons_cons, List.zip_nil_right, List.mem_cons, List.mem_nil_iff, or_false] at hy
    rcases hy with rfl | rfl | rfl | rfl | rfl | rfl | rfl | rfl | rfl | rfl | rfl | rfl | rfl | rfl | rfl | rfl | rfl | rfl | rfl | rfl
    · cases _e
    · cases _e
    · cases _e
    · cases _e
    · cases _e
    · cases _e
    · cases _e
    · cases _e
    · cases _e
    · cases _e
    · cases _e
    · cases _e
    · cases _e
    · cases _e
    · cases _e
    · cases _e
    · cases _e
    · cases _e
    · cases _e
    · exact ⟨pin_laid_unicode_utf8_first, by kernel_rfl⟩) fits2
theorem moveBackUpto_row_tie : Rows.moveBackUptoRow.laidByTextAt .later Tryz.pinned [.data, .data, .data, .data, .handle, .sentinel, .sentinel, .sentinel, .sentinel, .sentinel, .sentinel, .sentinel, .sentinel, .sentinel, .sentinel, .sentinel, .sentinel, .sentinel, .sentinel, .pinned] true :=
  OpenClaim.laidByTextAt_pinned rfl rfl tie2 rfl rfl rfl rfl (fun y hy _e => by
    simp only [Rows.moveBackUptoRow, List.zip_cons_cons, List.zip_nil_right, List.mem_cons, List.mem_nil_iff, or_false] at hy
    rcases hy with rfl | rfl | rfl | rfl | rfl | rfl | rfl | rfl | rfl | rfl | rfl | rfl | rfl | rfl | rfl | rfl | rfl | rfl | rfl | rfl
    · cases _e
    · cases _e
    · cases _e
    · cases _e
    · cases _e
    · cases _e
    · cases _e
    · cases _e
    · cases _e
    · cases _e
    · cases _e
    · cases _e
    · cases _e
    · cases _e
    · cases _e
    · cases _e
    · cases _e
    · cases _e
    · cases _e
    · exact ⟨pin_laid_unicode_utf8_first, by kernel_rfl⟩) fits2
end Go.Proofs.YtdmlghfggninbaaGreatDoor

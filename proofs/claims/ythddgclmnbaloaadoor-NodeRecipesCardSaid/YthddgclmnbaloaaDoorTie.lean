/-
  DERIVED. GIVEN WITH THE SEED: THE PROGRAM's TIES (one call each: nine closed facts by the kernel) AND EACH ROW's TIE, after the 31st guide's Derived/Test/Toyas{Tie, Card}.lean. No idea stands in it: it is a product of the set-up. Laid BY PROGRAM, IN A SANDBOX (cutbox-door.mjs). By AI agents, Wed Nov 11 2026. No macro, syntax, notation, axiom, sorry.
-/
import Derived.Test.YthddgclmnbaloaaDoorRows
import Derived.LaidByTextLater
import Derived.SevenTiedAt
import Derived.LaidSub
import Derived.LaidOnce
namespace Go.Proofs.YthddgclmnbaloaaDoor
open Go
set_option maxRecDepth 100000
theorem seatTie1 : Tryd.prog.laidByTextLater [("unicode/utf8.acceptRanges", Rows.laid_unicode_utf8_acceptRanges), ("errors.errorType", Rows.laid_errors_errorType), ("cornbin/api.ErrText", Rows.laid_cornbin_api_ErrText), ("cornbin/api.ErrBound", Rows.laid_cornbin_api_ErrBound), ("cornbin/api.ErrShape", Rows.laid_cornbin_api_ErrShape), ("cornbin/api.ErrName", Rows.laid_cornbin_api_ErrName), ("cornbin/api.ErrNone", Rows.laid_cornbin_api_ErrNone), ("cornbin/api.ErrExist", Rows.laid_cornbin_api_ErrExist), ("cornbin/api.ErrFull", Rows.laid_cornbin_api_ErrFull), ("cornbin/api.ErrOrder", Rows.laid_cornbin_api_ErrOrder), ("cornbin/api.ErrSum", Rows.laid_cornbin_api_ErrSum), ("cornbin/api.ErrClash", Rows.laid_cornbin_api_ErrClash), ("cornbin/api.ErrUsed", Rows.laid_cornbin_api_ErrUsed), ("cornbin/api.ErrOff", Rows.laid_cornbin_api_ErrOff)] [.data, .handle, .sentinel, .sentinel, .sentinel, .sentinel, .sentinel, .sentinel, .sentinel, .sentinel, .sentinel, .sentinel, .sentinel, .sentinel] true :=
  Program.laidByTextLater_by_one 254 8 33 (by kernel_rfl) (by kernel_rfl) (by kernel_rfl) (by kernel_rfl) (by kernel_rfl) (by kernel_rfl) (fun _ _ => by kernel_rfl)
theorem pin_laid_unicode_utf8_first : Tryd.pinned.checked.prog.pinnedFits "unicode/utf8.first" = true := by kernel_rfl
theorem noOwnUnsafe : Tryd.pinned.checked.prog.headLifts.contains "ownunsafe" = false := by kernel_rfl
theorem fits1 : Tryd.pinned.checked.prog.listedFits [("unicode/utf8.acceptRanges", Rows.laid_unicode_utf8_acceptRanges), ("cornbin/api.ErrBound", Rows.laid_cornbin_api_ErrBound), ("cornbin/api.ErrShape", Rows.laid_cornbin_api_ErrShape), ("cornbin/api.ErrName", Rows.laid_cornbin_api_ErrName), ("cornbin/api.ErrNone", Rows.laid_cornbin_api_ErrNone), ("cornbin/api.ErrExist", Rows.laid_cornbin_api_ErrExist), ("cornbin/api.ErrFull", Rows.laid_cornbin_api_ErrFull), ("cornbin/api.ErrSum", Rows.laid_cornbin_api_ErrSum), ("cornbin/api.ErrClash", Rows.laid_cornbin_api_ErrClash), ("unicode/utf8.first", Rows.laid_unicode_utf8_first)] = true := by
  unfold Program.listedFits
  rw [noOwnUnsafe]
  kernel_rfl
theorem tie : Tryd.prog.laidByTextLater [("unicode/utf8.acceptRanges", Rows.laid_unicode_utf8_acceptRanges), ("cornbin/api.ErrBound", Rows.laid_cornbin_api_ErrBound), ("cornbin/api.ErrShape", Rows.laid_cornbin_api_ErrShape), ("cornbin/api.ErrName", Rows.laid_cornbin_api_ErrName), ("cornbin/api.ErrNone", Rows.laid_cornbin_api_ErrNone), ("cornbin/api.ErrExist", Rows.laid_cornbin_api_ErrExist), ("cornbin/api.ErrFull", Rows.laid_cornbin_api_ErrFull), ("cornbin/api.ErrSum", Rows.laid_cornbin_api_ErrSum), ("cornbin/api.ErrClash", Rows.laid_cornbin_api_ErrClash)] [.data, .sentinel, .sentinel, .sentinel, .sentinel, .sentinel, .sentinel, .sentinel, .sentinel] true :=
  Program.laidByTextLater.sub seatTie1 ["unicode/utf8.acceptRanges", "cornbin/api.ErrBound", "cornbin/api.ErrShape", "cornbin/api.ErrName", "cornbin/api.ErrNone", "cornbin/api.ErrExist", "cornbin/api.ErrFull", "cornbin/api.ErrSum", "cornbin/api.ErrClash"] (by kernel_rfl) (by kernel_rfl)
theorem nodeRecipes_row_tie : Rows.nodeRecipesRow.laidByTextAt .later Tryd.pinned [.data, .sentinel, .sentinel, .sentinel, .sentinel, .sentinel, .sentinel, .sentinel, .sentinel, .pinned] true :=
  OpenClaim.laidByTextAt_pinned rfl rfl tie rfl rfl rfl rfl (fun y hy _e => by
    simp only [Rows.nodeRecipesRow, List.zip_cons_cons, List.zip_nil_right, List.mem_cons, List.mem_nil_iff, or_false] at hy
    rcases hy with rfl | rfl | rfl | rfl | rfl | rfl | rfl | rfl | rfl | rfl
    · cases _e
    · cases _e
    · cases _e
    · cases _e
    · cases _e
    · cases _e
    · cases _e
    · cases _e
    · cases _e
    · exact ⟨pin_laid_unicode_utf8_first, by kernel_rfl⟩) fits1
theorem tie2 : Tryd.prog.laidByTextLater [("errors.errorType", Rows.laid_errors_errorType), ("cornbin/api.ErrText", Rows.laid_cornbin_api_ErrText), ("cornbin/api.ErrBound", Rows.laid_cornbin_api_ErrBound), ("cornbin/api.ErrShape", Rows.laid_cornbin_api_ErrShape), ("cornbin/api.ErrName", Rows.laid_cornbin_api_ErrName), ("cornbin/api.ErrNone", Rows.laid_cornbin_api_ErrNone), ("cornbin/api.ErrExist", Rows.laid_cornbin_api_ErrExist), ("cornbin/api.ErrFull", Rows.laid_cornbin_api_ErrFull), ("cornbin/api.ErrOrder", Rows.laid_cornbin_api_ErrOrder), ("cornbin/api.ErrSum", Rows.laid_cornbin_api_ErrSum), ("cornbin/api.ErrClash", Rows.laid_cornbin_api_ErrClash), ("cornbin/api.ErrUsed", Rows.laid_cornbin_api_ErrUsed), ("cornbin/api.ErrOff", Rows.laid_cornbin_api_ErrOff)] [.handle, .sentinel, .sentinel, .sentinel, .sentinel, .sentinel, .sentinel, .sentinel, .sentinel, .sentinel, .sentinel, .sentinel, .sentinel] true :=
  Program.laidByTextLater.sub seatTie1 ["errors.errorType", "cornbin/api.ErrText", "cornbin/api.ErrBound", "cornbin/api.ErrShape", "cornbin/api.ErrName", "cornbin/api.ErrNone", "cornbin/api.ErrExist", "cornbin/api.ErrFull", "cornbin/api.ErrOrder", "cornbin/api.ErrSum", "cornbin/api.ErrClash", "cornbin/api.ErrUsed", "cornbin/api.ErrOff"] (by kernel_rfl) (by kernel_rfl)
theorem binActs_row_tie : Rows.binActsRow.laidByTextAt .later Tryd.pinned [.handle, .sentinel, .sentinel, .sentinel, .sentinel, .sentinel, .sentinel, .sentinel, .sentinel, .sentinel, .sentinel, .sentinel, .sentinel] true :=
  OpenClaim.laidByTextAt_later rfl rfl tie2 noOwnUnsafe
theorem nodeRecipesUpto_row_tie : Rows.nodeRecipesUptoRow.laidByTextAt .later Tryd.pinned [.data, .sentinel, .sentinel, .sentinel, .sentinel, .sentinel, .sentinel, .sentinel, .sentinel, .pinned] true :=
  OpenClaim.laidByTextAt_pinned rfl rfl tie rfl rfl rfl rfl (fun y hy _e => by
    simp only [Rows.nodeRecipesUptoRow, List.zip_cons_cons, List.zip_nil_right, List.mem_cons, List.mem_nil_iff, or_false] at hy
    rcases hy with rfl | rfl | rfl | rfl | rfl | rfl | rfl | rfl | rfl | rfl
    · cases _e
    · cases _e
    · cases _e
    · cases _e
    · cases _e
    · cases _e
    · cases _e
    · cases _e
    · cases _e
    · exact ⟨pin_laid_unicode_utf8_first, by kernel_rfl⟩) fits1
theorem binActsUpto_row_tie : Rows.binActsUptoRow.laidByTextAt .later Tryd.pinned [.handle, .sentinel, .sentinel, .sentinel, .sentinel, .sentinel, .sentinel, .sentinel, .sentinel, .sentinel, .sentinel, .sentinel, .sentinel] true :=
  OpenClaim.laidByTextAt_later rfl rfl tie2 noOwnUnsafe
end Go.Proofs.YthddgclmnbaloaaDoor

/-
  DERIVED. GIVEN WITH THE SEED: THE PROGRAM's TIES (one call each: nine closed facts by the kernel) AND EACH ROW's TIE, after the 31st guide's Derived/Test/Toyas{Tie, Card}.lean. No idea stands in it: it is a product of the set-up. Laid BY PROGRAM, IN A SANDBOX (cutbox-door.mjs). By AI agents, Wed Nov 11 2026. No macro, syntax, notation, axiom, sorry.
-/
import Derived.Test.YtanondjaooocgaaDoorRows
import Derived.LaidByTextLater
import Derived.SevenTiedAt
import Derived.LaidSub
import Derived.LaidOnce
namespace Go.Proofs.YtanondjaooocgaaDoor
open Go
set_option maxRecDepth 100000
theorem seatTie1 : Tryd.prog.laidByTextLater [("errors.errorType", Rows.laid_errors_errorType), ("cornbin/api.ErrText", Rows.laid_cornbin_api_ErrText), ("cornbin/api.ErrBound", Rows.laid_cornbin_api_ErrBound), ("cornbin/api.ErrShape", Rows.laid_cornbin_api_ErrShape), ("cornbin/api.ErrName", Rows.laid_cornbin_api_ErrName), ("cornbin/api.ErrNone", Rows.laid_cornbin_api_ErrNone), ("cornbin/api.ErrExist", Rows.laid_cornbin_api_ErrExist), ("cornbin/api.ErrFull", Rows.laid_cornbin_api_ErrFull), ("cornbin/api.ErrOrder", Rows.laid_cornbin_api_ErrOrder), ("cornbin/api.ErrSum", Rows.laid_cornbin_api_ErrSum), ("cornbin/api.ErrClash", Rows.laid_cornbin_api_ErrClash), ("cornbin/api.ErrUsed", Rows.laid_cornbin_api_ErrUsed), ("cornbin/api.ErrOff", Rows.laid_cornbin_api_ErrOff)] [.handle, .sentinel, .sentinel, .sentinel, .sentinel, .sentinel, .sentinel, .sentinel, .sentinel, .sentinel, .sentinel, .sentinel, .sentinel] true :=
  Program.laidByTextLater_by_one 244 8 2 (by kernel_rfl) (by kernel_rfl) (by kernel_rfl) (by kernel_rfl) (by kernel_rfl) (by kernel_rfl) (fun _ _ => by kernel_rfl)
theorem noOwnUnsafe : Tryd.pinned.checked.prog.headLifts.contains "ownunsafe" = false := by kernel_rfl
theorem tie : Tryd.prog.laidByTextLater [("cornbin/api.ErrBound", Rows.laid_cornbin_api_ErrBound), ("cornbin/api.ErrShape", Rows.laid_cornbin_api_ErrShape)] [.sentinel, .sentinel] true :=
  Program.laidByTextLater.sub seatTie1 ["cornbin/api.ErrBound", "cornbin/api.ErrShape"] (by kernel_rfl) (by kernel_rfl)
theorem deltaBack_row_tie : Rows.deltaBackRow.laidByTextAt .later Tryd.pinned [.sentinel, .sentinel] true :=
  OpenClaim.laidByTextAt_later rfl rfl tie noOwnUnsafe
theorem tie2 : Tryd.prog.laidByTextLater [("errors.errorType", Rows.laid_errors_errorType), ("cornbin/api.ErrText", Rows.laid_cornbin_api_ErrText), ("cornbin/api.ErrBound", Rows.laid_cornbin_api_ErrBound), ("cornbin/api.ErrShape", Rows.laid_cornbin_api_ErrShape), ("cornbin/api.ErrName", Rows.laid_cornbin_api_ErrName), ("cornbin/api.ErrNone", Rows.laid_cornbin_api_ErrNone), ("cornbin/api.ErrExist", Rows.laid_cornbin_api_ErrExist), ("cornbin/api.ErrFull", Rows.laid_cornbin_api_ErrFull), ("cornbin/api.ErrOrder", Rows.laid_cornbin_api_ErrOrder), ("cornbin/api.ErrSum", Rows.laid_cornbin_api_ErrSum), ("cornbin/api.ErrClash", Rows.laid_cornbin_api_ErrClash), ("cornbin/api.ErrUsed", Rows.laid_cornbin_api_ErrUsed), ("cornbin/api.ErrOff", Rows.laid_cornbin_api_ErrOff)] [.handle, .sentinel, .sentinel, .sentinel, .sentinel, .sentinel, .sentinel, .sentinel, .sentinel, .sentinel, .sentinel, .sentinel, .sentinel] true :=
  Program.laidByTextLater.sub seatTie1 ["errors.errorType", "cornbin/api.ErrText", "cornbin/api.ErrBound", "cornbin/api.ErrShape", "cornbin/api.ErrName", "cornbin/api.ErrNone", "cornbin/api.ErrExist", "cornbin/api.ErrFull", "cornbin/api.ErrOrder", "cornbin/api.ErrSum", "cornbin/api.ErrClash", "cornbin/api.ErrUsed", "cornbin/api.ErrOff"] (by kernel_rfl) (by kernel_rfl)
theorem names_row_tie : Rows.namesRow.laidByTextAt .later Tryd.pinned [.handle, .sentinel, .sentinel, .sentinel, .sentinel, .sentinel, .sentinel, .sentinel, .sentinel, .sentinel, .sentinel, .sentinel, .sentinel] true :=
  OpenClaim.laidByTextAt_later rfl rfl tie2 noOwnUnsafe
theorem deltaTells_row_tie : Rows.deltaTellsRow.laidByTextAt .later Tryd.pinned [.handle, .sentinel, .sentinel, .sentinel, .sentinel, .sentinel, .sentinel, .sentinel, .sentinel, .sentinel, .sentinel, .sentinel, .sentinel] true :=
  OpenClaim.laidByTextAt_later rfl rfl tie2 noOwnUnsafe
theorem deltaBackUpto_row_tie : Rows.deltaBackUptoRow.laidByTextAt .later Tryd.pinned [.sentinel, .sentinel] true :=
  OpenClaim.laidByTextAt_later rfl rfl tie noOwnUnsafe
theorem namesUpto_row_tie : Rows.namesUptoRow.laidByTextAt .later Tryd.pinned [.handle, .sentinel, .sentinel, .sentinel, .sentinel, .sentinel, .sentinel, .sentinel, .sentinel, .sentinel, .sentinel, .sentinel, .sentinel] true :=
  OpenClaim.laidByTextAt_later rfl rfl tie2 noOwnUnsafe
theorem deltaTellsUpto_row_tie : Rows.deltaTellsUptoRow.laidByTextAt .later Tryd.pinned [.handle, .sentinel, .sentinel, .sentinel, .sentinel, .sentinel, .sentinel, .sentinel, .sentinel, .sentinel, .sentinel, .sentinel, .sentinel] true :=
  OpenClaim.laidByTextAt_later rfl rfl tie2 noOwnUnsafe
end Go.Proofs.YtanondjaooocgaaDoor

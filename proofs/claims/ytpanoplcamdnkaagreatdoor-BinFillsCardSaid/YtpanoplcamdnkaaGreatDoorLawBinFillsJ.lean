/- The closed facts of the law BinFills's row, each by the kernel. No conditions. -/
import Derived.Test.YtpanoplcamdnkaaGreatDoorRows
import Derived.Test.YtpanoplcamdnkaaGreatDoorChecked
import Derived.JoinedOf
import Derived.ProofKit
import Derived.WalkKit
namespace Go.Proofs.YtpanoplcamdnkaaGreatDoor.binFills
open Go Go.ChangeShapes Go.WideShapes Go.ChangeAt Go.RowKit
open Go.ChangeMaps (open_string shut_string)
set_option linter.unusedVariables false

theorem j0 : ((Rows.binFillsRow).wf (OpenSpec.ofChange (Rows.binFillsSpec))) = true := by kernel_rfl
theorem j1 : (laidOutB (Tryz.pinned.checked.prog)) = true := by kernel_rfl
theorem j2 : (mapsRowed (Tryz.pinned.checked.prog)) = true := by kernel_rfl
theorem j3 : (Tryz.f6.params.all ((Tryz.pinned.checked.prog).readableRec ·)) = true := by kernel_rfl
theorem j4 : (namedTie (Tryz.pinned.checked.prog) (Rows.binFillsRow).named (Rows.binFillsSpec).vars) = true := by kernel_rfl
theorem j5 : (((Rows.binFillsRow).stops == [])) = true := by kernel_rfl
theorem j6 : (((Tryz.pinned.checked.prog).stops == [])) = true := by kernel_rfl
theorem j7 : (((Rows.binFillsRow).knobs == [])) = true := by kernel_rfl
theorem j8 : (((Tryz.pinned.checked.prog).stopKnobs == [])) = true := by kernel_rfl
theorem j9 : (((Rows.binFillsRow).inPlace == (Tryz.pinned.checked.prog).inPlace 6)) = true := by kernel_rfl
theorem j10 : (((Rows.binFillsRow).unfollowed == (Tryz.pinned.checked.prog).unfollowed 6)) = true := by kernel_rfl
theorem j11 : (((Rows.binFillsRow).recurses == (Tryz.pinned.checked.prog).recurses 6)) = true := by kernel_rfl
theorem j12 : (((Rows.binFillsRow).named == (Tryz.pinned.checked.prog).varsNamed 6)) = true := by kernel_rfl
theorem j13 : (((Rows.binFillsRow).maps == (Tryz.f6.params.toList ++ (Rows.binFillsSpec).plain.varTypes (Tryz.pinned.checked.prog)).any ((Tryz.pinned.checked.prog).mapsRec ·))) = true := by kernel_rfl
theorem j14 : (((Rows.binFillsRow).ifaces == (Tryz.f6.params.toList ++ (Rows.binFillsSpec).plain.varTypes (Tryz.pinned.checked.prog)).any ((Tryz.pinned.checked.prog).ifacesRec ·))) = true := by kernel_rfl
theorem j15 : (((Rows.binFillsRow).mapsOut == (Tryz.pinned.checked.prog).mapsAmong Tryz.f6.resultTypes.toList)) = true := by kernel_rfl
theorem j16 : (((Rows.binFillsRow).loops == (Tryz.f6.params.toList ++ (Rows.binFillsSpec).plain.varTypes (Tryz.pinned.checked.prog)).any ((Tryz.pinned.checked.prog).loopsFrom ·))) = true := by kernel_rfl
theorem j17 : (((Rows.binFillsRow).wideKeys == (Tryz.f6.params.toList ++ (Rows.binFillsSpec).plain.varTypes (Tryz.pinned.checked.prog) ++ Tryz.f6.resultTypes.toList).any ((Tryz.pinned.checked.prog).wideKeysFrom ·))) = true := by kernel_rfl
theorem j18 : ((Rows.binFillsSpec).vars.all ((Tryz.pinned.checked.prog).varReadable ·)) = true := by kernel_rfl
theorem j19 : (Tryz.f6.resultTypes.all (fun t => (Tryz.pinned.checked.prog).readableRec t && decide (t < (Tryz.pinned.checked.prog).types.size))) = true := by kernel_rfl
theorem j20 : (((Rows.binFillsRow).ifacesOut == Tryz.f6.resultTypes.toList.any ((Tryz.pinned.checked.prog).ifacesRec ·))) = true := by kernel_rfl
theorem j21 : (((Rows.binFillsRow).loopsOut == Tryz.f6.resultTypes.toList.any ((Tryz.pinned.checked.prog).loopsFrom ·))) = true := by kernel_rfl
theorem j22 : (((Rows.binFillsRow).plainKeys == (Tryz.pinned.checked.prog).plainKeys)) = true := by kernel_rfl
theorem j23 : ((Rows.binFillsRow).shortTexts.isNone) = true := by kernel_rfl
theorem j24 : ((Tryz.pinned.checked.prog).stopsHeard) = true := by kernel_rfl
theorem j25 : ((Tryz.pinned.checked.prog).mayEnter) = true := by kernel_rfl
theorem j26 : (((Rows.binFillsRow).lifted == (Tryz.pinned.checked.prog).liftsFinal)) = true := by kernel_rfl
theorem j27 : (((Tryz.pinned.checked.prog).make == some (Rows.binFillsRow).make)) = true := by kernel_rfl
theorem j28 (X : List (Option IntKind)) : ((Rows.binFillsRow).kinds == (if (Rows.binFillsRow).domain.isEmpty then [] else X)) = true := rfl
theorem j29 : (((Rows.binFillsRow).pinned == (Rows.binFillsRow).pinnedBy)) = true := by kernel_rfl
theorem j30 : (((Rows.binFillsRow).veiled == (Tryz.f6.params.toList ++ (Rows.binFillsSpec).plain.varTypes (Tryz.pinned.checked.prog) ++ Tryz.f6.resultTypes.toList).any ((Tryz.pinned.checked.prog).veiledRec ·))) = true := by kernel_rfl
theorem j31 : ((Rows.binFillsRow).veiledFits (Tryz.pinned.checked.prog) Tryz.f6.params.toList (Tryz.f6.params.toList ++ (Rows.binFillsSpec).plain.varTypes (Tryz.pinned.checked.prog) ++ Tryz.f6.resultTypes.toList)) = true := by kernel_rfl
end Go.Proofs.YtpanoplcamdnkaaGreatDoor.binFills

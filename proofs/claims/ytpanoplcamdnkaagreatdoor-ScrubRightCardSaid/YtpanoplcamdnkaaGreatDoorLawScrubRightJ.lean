/- The closed facts of the law ScrubRight's row, each by the kernel. No conditions. -/
import Derived.Test.YtpanoplcamdnkaaGreatDoorRows
import Derived.Test.YtpanoplcamdnkaaGreatDoorChecked
import Derived.JoinedOf
import Derived.ProofKit
import Derived.WalkKit
namespace Go.Proofs.YtpanoplcamdnkaaGreatDoor.scrubRight
open Go Go.ChangeShapes Go.WideShapes Go.ChangeAt Go.RowKit
open Go.ChangeMaps (open_string shut_string)
set_option linter.unusedVariables false

theorem j0 : ((Rows.scrubRightRow).wf (OpenSpec.ofChange (Rows.scrubRightSpec))) = true := by kernel_rfl
theorem j1 : (laidOutB (Tryz.pinned.checked.prog)) = true := by kernel_rfl
theorem j2 : (mapsRowed (Tryz.pinned.checked.prog)) = true := by kernel_rfl
theorem j3 : (Tryz.f7.params.all ((Tryz.pinned.checked.prog).readableRec ·)) = true := by kernel_rfl
theorem j4 : (namedTie (Tryz.pinned.checked.prog) (Rows.scrubRightRow).named (Rows.scrubRightSpec).vars) = true := by kernel_rfl
theorem j5 : (((Rows.scrubRightRow).stops == [])) = true := by kernel_rfl
theorem j6 : (((Tryz.pinned.checked.prog).stops == [])) = true := by kernel_rfl
theorem j7 : (((Rows.scrubRightRow).knobs == [])) = true := by kernel_rfl
theorem j8 : (((Tryz.pinned.checked.prog).stopKnobs == [])) = true := by kernel_rfl
theorem j9 : (((Rows.scrubRightRow).inPlace == (Tryz.pinned.checked.prog).inPlace 7)) = true := by kernel_rfl
theorem j10 : (((Rows.scrubRightRow).unfollowed == (Tryz.pinned.checked.prog).unfollowed 7)) = true := by kernel_rfl
theorem j11 : (((Rows.scrubRightRow).recurses == (Tryz.pinned.checked.prog).recurses 7)) = true := by kernel_rfl
theorem j12 : (((Rows.scrubRightRow).named == (Tryz.pinned.checked.prog).varsNamed 7)) = true := by kernel_rfl
theorem j13 : (((Rows.scrubRightRow).maps == (Tryz.f7.params.toList ++ (Rows.scrubRightSpec).plain.varTypes (Tryz.pinned.checked.prog)).any ((Tryz.pinned.checked.prog).mapsRec ·))) = true := by kernel_rfl
theorem j14 : (((Rows.scrubRightRow).ifaces == (Tryz.f7.params.toList ++ (Rows.scrubRightSpec).plain.varTypes (Tryz.pinned.checked.prog)).any ((Tryz.pinned.checked.prog).ifacesRec ·))) = true := by kernel_rfl
theorem j15 : (((Rows.scrubRightRow).mapsOut == (Tryz.pinned.checked.prog).mapsAmong Tryz.f7.resultTypes.toList)) = true := by kernel_rfl
theorem j16 : (((Rows.scrubRightRow).loops == (Tryz.f7.params.toList ++ (Rows.scrubRightSpec).plain.varTypes (Tryz.pinned.checked.prog)).any ((Tryz.pinned.checked.prog).loopsFrom ·))) = true := by kernel_rfl
theorem j17 : (((Rows.scrubRightRow).wideKeys == (Tryz.f7.params.toList ++ (Rows.scrubRightSpec).plain.varTypes (Tryz.pinned.checked.prog) ++ Tryz.f7.resultTypes.toList).any ((Tryz.pinned.checked.prog).wideKeysFrom ·))) = true := by kernel_rfl
theorem j18 : ((Rows.scrubRightSpec).vars.all ((Tryz.pinned.checked.prog).varReadable ·)) = true := by kernel_rfl
theorem j19 : (Tryz.f7.resultTypes.all (fun t => (Tryz.pinned.checked.prog).readableRec t && decide (t < (Tryz.pinned.checked.prog).types.size))) = true := by kernel_rfl
theorem j20 : (((Rows.scrubRightRow).ifacesOut == Tryz.f7.resultTypes.toList.any ((Tryz.pinned.checked.prog).ifacesRec ·))) = true := by kernel_rfl
theorem j21 : (((Rows.scrubRightRow).loopsOut == Tryz.f7.resultTypes.toList.any ((Tryz.pinned.checked.prog).loopsFrom ·))) = true := by kernel_rfl
theorem j22 : (((Rows.scrubRightRow).plainKeys == (Tryz.pinned.checked.prog).plainKeys)) = true := by kernel_rfl
theorem j23 : ((Rows.scrubRightRow).shortTexts.isNone) = true := by kernel_rfl
theorem j24 : ((Tryz.pinned.checked.prog).stopsHeard) = true := by kernel_rfl
theorem j25 : ((Tryz.pinned.checked.prog).mayEnter) = true := by kernel_rfl
theorem j26 : (((Rows.scrubRightRow).lifted == (Tryz.pinned.checked.prog).liftsFinal)) = true := by kernel_rfl
theorem j27 : (((Tryz.pinned.checked.prog).make == some (Rows.scrubRightRow).make)) = true := by kernel_rfl
theorem j28 (X : List (Option IntKind)) : ((Rows.scrubRightRow).kinds == (if (Rows.scrubRightRow).domain.isEmpty then [] else X)) = true := rfl
theorem j29 : (((Rows.scrubRightRow).pinned == (Rows.scrubRightRow).pinnedBy)) = true := by kernel_rfl
theorem j30 : (((Rows.scrubRightRow).veiled == (Tryz.f7.params.toList ++ (Rows.scrubRightSpec).plain.varTypes (Tryz.pinned.checked.prog) ++ Tryz.f7.resultTypes.toList).any ((Tryz.pinned.checked.prog).veiledRec ·))) = true := by kernel_rfl
theorem j31 : ((Rows.scrubRightRow).veiledFits (Tryz.pinned.checked.prog) Tryz.f7.params.toList (Tryz.f7.params.toList ++ (Rows.scrubRightSpec).plain.varTypes (Tryz.pinned.checked.prog) ++ Tryz.f7.resultTypes.toList)) = true := by kernel_rfl
end Go.Proofs.YtpanoplcamdnkaaGreatDoor.scrubRight

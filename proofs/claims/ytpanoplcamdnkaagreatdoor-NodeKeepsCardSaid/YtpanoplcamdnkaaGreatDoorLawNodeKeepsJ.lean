/- The closed facts of the law NodeKeeps's row, each by the kernel. No conditions. -/
import Derived.Test.YtpanoplcamdnkaaGreatDoorRows
import Derived.Test.YtpanoplcamdnkaaGreatDoorChecked
import Derived.JoinedOf
import Derived.ProofKit
import Derived.WalkKit
namespace Go.Proofs.YtpanoplcamdnkaaGreatDoor.nodeKeeps
open Go Go.ChangeShapes Go.WideShapes Go.ChangeAt Go.RowKit
open Go.ChangeMaps (open_string shut_string)
set_option linter.unusedVariables false

theorem j0 : ((Rows.nodeKeepsRow).wf (OpenSpec.ofChange (Rows.nodeKeepsSpec))) = true := by kernel_rfl
theorem j1 : (laidOutB (Tryz.pinned.checked.prog)) = true := by kernel_rfl
theorem j2 : (mapsRowed (Tryz.pinned.checked.prog)) = true := by kernel_rfl
theorem j3 : (Tryz.f3.params.all ((Tryz.pinned.checked.prog).readableRec ·)) = true := by kernel_rfl
theorem j4 : (namedTie (Tryz.pinned.checked.prog) (Rows.nodeKeepsRow).named (Rows.nodeKeepsSpec).vars) = true := by kernel_rfl
theorem j5 : (((Rows.nodeKeepsRow).stops == [])) = true := by kernel_rfl
theorem j6 : (((Tryz.pinned.checked.prog).stops == [])) = true := by kernel_rfl
theorem j7 : (((Rows.nodeKeepsRow).knobs == [])) = true := by kernel_rfl
theorem j8 : (((Tryz.pinned.checked.prog).stopKnobs == [])) = true := by kernel_rfl
theorem j9 : (((Rows.nodeKeepsRow).inPlace == (Tryz.pinned.checked.prog).inPlace 3)) = true := by kernel_rfl
theorem j10 : (((Rows.nodeKeepsRow).unfollowed == (Tryz.pinned.checked.prog).unfollowed 3)) = true := by kernel_rfl
theorem j11 : (((Rows.nodeKeepsRow).recurses == (Tryz.pinned.checked.prog).recurses 3)) = true := by kernel_rfl
theorem j12 : (((Rows.nodeKeepsRow).named == (Tryz.pinned.checked.prog).varsNamed 3)) = true := by kernel_rfl
theorem j13 : (((Rows.nodeKeepsRow).maps == (Tryz.f3.params.toList ++ (Rows.nodeKeepsSpec).plain.varTypes (Tryz.pinned.checked.prog)).any ((Tryz.pinned.checked.prog).mapsRec ·))) = true := by kernel_rfl
theorem j14 : (((Rows.nodeKeepsRow).ifaces == (Tryz.f3.params.toList ++ (Rows.nodeKeepsSpec).plain.varTypes (Tryz.pinned.checked.prog)).any ((Tryz.pinned.checked.prog).ifacesRec ·))) = true := by kernel_rfl
theorem j15 : (((Rows.nodeKeepsRow).mapsOut == (Tryz.pinned.checked.prog).mapsAmong Tryz.f3.resultTypes.toList)) = true := by kernel_rfl
theorem j16 : (((Rows.nodeKeepsRow).loops == (Tryz.f3.params.toList ++ (Rows.nodeKeepsSpec).plain.varTypes (Tryz.pinned.checked.prog)).any ((Tryz.pinned.checked.prog).loopsFrom ·))) = true := by kernel_rfl
theorem j17 : (((Rows.nodeKeepsRow).wideKeys == (Tryz.f3.params.toList ++ (Rows.nodeKeepsSpec).plain.varTypes (Tryz.pinned.checked.prog) ++ Tryz.f3.resultTypes.toList).any ((Tryz.pinned.checked.prog).wideKeysFrom ·))) = true := by kernel_rfl
theorem j18 : ((Rows.nodeKeepsSpec).vars.all ((Tryz.pinned.checked.prog).varReadable ·)) = true := by kernel_rfl
theorem j19 : (Tryz.f3.resultTypes.all (fun t => (Tryz.pinned.checked.prog).readableRec t && decide (t < (Tryz.pinned.checked.prog).types.size))) = true := by kernel_rfl
theorem j20 : (((Rows.nodeKeepsRow).ifacesOut == Tryz.f3.resultTypes.toList.any ((Tryz.pinned.checked.prog).ifacesRec ·))) = true := by kernel_rfl
theorem j21 : (((Rows.nodeKeepsRow).loopsOut == Tryz.f3.resultTypes.toList.any ((Tryz.pinned.checked.prog).loopsFrom ·))) = true := by kernel_rfl
theorem j22 : (((Rows.nodeKeepsRow).plainKeys == (Tryz.pinned.checked.prog).plainKeys)) = true := by kernel_rfl
theorem j23 : ((Rows.nodeKeepsRow).shortTexts.isNone) = true := by kernel_rfl
theorem j24 : ((Tryz.pinned.checked.prog).stopsHeard) = true := by kernel_rfl
theorem j25 : ((Tryz.pinned.checked.prog).mayEnter) = true := by kernel_rfl
theorem j26 : (((Rows.nodeKeepsRow).lifted == (Tryz.pinned.checked.prog).liftsFinal)) = true := by kernel_rfl
theorem j27 : (((Tryz.pinned.checked.prog).make == some (Rows.nodeKeepsRow).make)) = true := by kernel_rfl
theorem j28 (X : List (Option IntKind)) : ((Rows.nodeKeepsRow).kinds == (if (Rows.nodeKeepsRow).domain.isEmpty then [] else X)) = true := rfl
theorem j29 : (((Rows.nodeKeepsRow).pinned == (Rows.nodeKeepsRow).pinnedBy)) = true := by kernel_rfl
theorem j30 : (((Rows.nodeKeepsRow).veiled == (Tryz.f3.params.toList ++ (Rows.nodeKeepsSpec).plain.varTypes (Tryz.pinned.checked.prog) ++ Tryz.f3.resultTypes.toList).any ((Tryz.pinned.checked.prog).veiledRec ·))) = true := by kernel_rfl
theorem j31 : ((Rows.nodeKeepsRow).veiledFits (Tryz.pinned.checked.prog) Tryz.f3.params.toList (Tryz.f3.params.toList ++ (Rows.nodeKeepsSpec).plain.varTypes (Tryz.pinned.checked.prog) ++ Tryz.f3.resultTypes.toList)) = true := by kernel_rfl
end Go.Proofs.YtpanoplcamdnkaaGreatDoor.nodeKeeps

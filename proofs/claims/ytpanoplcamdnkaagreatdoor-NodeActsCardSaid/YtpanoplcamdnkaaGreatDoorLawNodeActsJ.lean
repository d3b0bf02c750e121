/- The closed facts of the law NodeActs's row, each by the kernel. No conditions. -/
import Derived.Test.YtpanoplcamdnkaaGreatDoorRows
import Derived.Test.YtpanoplcamdnkaaGreatDoorChecked
import Derived.JoinedOf
import Derived.ProofKit
import Derived.WalkKit
namespace Go.Proofs.YtpanoplcamdnkaaGreatDoor.nodeActs
open Go Go.ChangeShapes Go.WideShapes Go.ChangeAt Go.RowKit
open Go.ChangeMaps (open_string shut_string)
set_option linter.unusedVariables false

theorem j0 : ((Rows.nodeActsRow).wf (OpenSpec.ofChange (Rows.nodeActsSpec))) = true := by kernel_rfl
theorem j1 : (laidOutB (Tryz.pinned.checked.prog)) = true := by kernel_rfl
theorem j2 : (mapsRowed (Tryz.pinned.checked.prog)) = true := by kernel_rfl
theorem j3 : (Tryz.f8.params.all ((Tryz.pinned.checked.prog).readableRec ·)) = true := by kernel_rfl
theorem j4 : (namedTie (Tryz.pinned.checked.prog) (Rows.nodeActsRow).named (Rows.nodeActsSpec).vars) = true := by kernel_rfl
theorem j5 : (((Rows.nodeActsRow).stops == [])) = true := by kernel_rfl
theorem j6 : (((Tryz.pinned.checked.prog).stops == [])) = true := by kernel_rfl
theorem j7 : (((Rows.nodeActsRow).knobs == [])) = true := by kernel_rfl
theorem j8 : (((Tryz.pinned.checked.prog).stopKnobs == [])) = true := by kernel_rfl
theorem j9 : (((Rows.nodeActsRow).inPlace == (Tryz.pinned.checked.prog).inPlace 8)) = true := by kernel_rfl
theorem j10 : (((Rows.nodeActsRow).unfollowed == (Tryz.pinned.checked.prog).unfollowed 8)) = true := by kernel_rfl
theorem j11 : (((Rows.nodeActsRow).recurses == (Tryz.pinned.checked.prog).recurses 8)) = true := by kernel_rfl
theorem j12 : (((Rows.nodeActsRow).named == (Tryz.pinned.checked.prog).varsNamed 8)) = true := by kernel_rfl
theorem j13 : (((Rows.nodeActsRow).maps == (Tryz.f8.params.toList ++ (Rows.nodeActsSpec).plain.varTypes (Tryz.pinned.checked.prog)).any ((Tryz.pinned.checked.prog).mapsRec ·))) = true := by kernel_rfl
theorem j14 : (((Rows.nodeActsRow).ifaces == (Tryz.f8.params.toList ++ (Rows.nodeActsSpec).plain.varTypes (Tryz.pinned.checked.prog)).any ((Tryz.pinned.checked.prog).ifacesRec ·))) = true := by kernel_rfl
theorem j15 : (((Rows.nodeActsRow).mapsOut == (Tryz.pinned.checked.prog).mapsAmong Tryz.f8.resultTypes.toList)) = true := by kernel_rfl
theorem j16 : (((Rows.nodeActsRow).loops == (Tryz.f8.params.toList ++ (Rows.nodeActsSpec).plain.varTypes (Tryz.pinned.checked.prog)).any ((Tryz.pinned.checked.prog).loopsFrom ·))) = true := by kernel_rfl
theorem j17 : (((Rows.nodeActsRow).wideKeys == (Tryz.f8.params.toList ++ (Rows.nodeActsSpec).plain.varTypes (Tryz.pinned.checked.prog) ++ Tryz.f8.resultTypes.toList).any ((Tryz.pinned.checked.prog).wideKeysFrom ·))) = true := by kernel_rfl
theorem j18 : ((Rows.nodeActsSpec).vars.all ((Tryz.pinned.checked.prog).varReadable ·)) = true := by kernel_rfl
theorem j19 : (Tryz.f8.resultTypes.all (fun t => (Tryz.pinned.checked.prog).readableRec t && decide (t < (Tryz.pinned.checked.prog).types.size))) = true := by kernel_rfl
theorem j20 : (((Rows.nodeActsRow).ifacesOut == Tryz.f8.resultTypes.toList.any ((Tryz.pinned.checked.prog).ifacesRec ·))) = true := by kernel_rfl
theorem j21 : (((Rows.nodeActsRow).loopsOut == Tryz.f8.resultTypes.toList.any ((Tryz.pinned.checked.prog).loopsFrom ·))) = true := by kernel_rfl
theorem j22 : (((Rows.nodeActsRow).plainKeys == (Tryz.pinned.checked.prog).plainKeys)) = true := by kernel_rfl
theorem j23 : ((Rows.nodeActsRow).shortTexts.isNone) = true := by kernel_rfl
theorem j24 : ((Tryz.pinned.checked.prog).stopsHeard) = true := by kernel_rfl
theorem j25 : ((Tryz.pinned.checked.prog).mayEnter) = true := by kernel_rfl
theorem j26 : (((Rows.nodeActsRow).lifted == (Tryz.pinned.checked.prog).liftsFinal)) = true := by kernel_rfl
theorem j27 : (((Tryz.pinned.checked.prog).make == some (Rows.nodeActsRow).make)) = true := by kernel_rfl
theorem j28 (X : List (Option IntKind)) : ((Rows.nodeActsRow).kinds == (if (Rows.nodeActsRow).domain.isEmpty then [] else X)) = true := rfl
theorem j29 : (((Rows.nodeActsRow).pinned == (Rows.nodeActsRow).pinnedBy)) = true := by kernel_rfl
theorem j30 : (((Rows.nodeActsRow).veiled == (Tryz.f8.params.toList ++ (Rows.nodeActsSpec).plain.varTypes (Tryz.pinned.checked.prog) ++ Tryz.f8.resultTypes.toList).any ((Tryz.pinned.checked.prog).veiledRec ·))) = true := by kernel_rfl
theorem j31 : ((Rows.nodeActsRow).veiledFits (Tryz.pinned.checked.prog) Tryz.f8.params.toList (Tryz.f8.params.toList ++ (Rows.nodeActsSpec).plain.varTypes (Tryz.pinned.checked.prog) ++ Tryz.f8.resultTypes.toList)) = true := by kernel_rfl
end Go.Proofs.YtpanoplcamdnkaaGreatDoor.nodeActs

/- The closed facts of the law MoveBack's row, each by the kernel. No conditions. -/
import Derived.Test.YtdmlghfggninbaaGreatDoorRows
import Derived.Test.YtdmlghfggninbaaGreatDoorChecked
import Derived.JoinedOf
import Derived.ProofKit
import Derived.WalkKit
namespace Go.Proofs.YtdmlghfggninbaaGreatDoor.moveBack
open Go Go.ChangeShapes Go.WideShapes Go.ChangeAt Go.RowKit
open Go.ChangeMaps (open_string shut_string)
set_option linter.unusedVariables false

theorem j0 : ((Rows.moveBackRow).wf (OpenSpec.ofChange (Rows.moveBackSpec))) = true := by kernel_rfl
theorem j1 : (laidOutB (Tryz.pinned.checked.prog)) = true := by kernel_rfl
theorem j2 : (mapsRowed (Tryz.pinned.checked.prog)) = true := by kernel_rfl
theorem j3 : (Tryz.f5.params.all ((Tryz.pinned.checked.prog).readableRec ·)) = true := by kernel_rfl
theorem j4 : (namedTie (Tryz.pinned.checked.prog) (Rows.moveBackRow).named (Rows.moveBackSpec).vars) = true := by kernel_rfl
theorem j5 : (((Rows.moveBackRow).stops == [])) = true := by kernel_rfl
theorem j6 : (((Tryz.pinned.checked.prog).stops == [])) = true := by kernel_rfl
theorem j7 : (((Rows.moveBackRow).knobs == [])) = true := by kernel_rfl
theorem j8 : (((Tryz.pinned.checked.prog).stopKnobs == [])) = true := by kernel_rfl
theorem j9 : (((Rows.moveBackRow).inPlace == (Tryz.pinned.checked.prog).inPlace 5)) = true := by kernel_rfl
theorem j10 : (((Rows.moveBackRow).unfollowed == (Tryz.pinned.checked.prog).unfollowed 5)) = true := by kernel_rfl
theorem j11 : (((Rows.moveBackRow).recurses == (Tryz.pinned.checked.prog).recurses 5)) = true := by kernel_rfl
theorem j12 : (((Rows.moveBackRow).named == (Tryz.pinned.checked.prog).varsNamed 5)) = true := by kernel_rfl
theorem j13 : (((Rows.moveBackRow).maps == (Tryz.f5.params.toList ++ (Rows.moveBackSpec).plain.varTypes (Tryz.pinned.checked.prog)).any ((Tryz.pinned.checked.prog).mapsRec ·))) = true := by kernel_rfl
theorem j14 : (((Rows.moveBackRow).ifaces == (Tryz.f5.params.toList ++ (Rows.moveBackSpec).plain.varTypes (Tryz.pinned.checked.prog)).any ((Tryz.pinned.checked.prog).ifacesRec ·))) = true := by kernel_rfl
theorem j15 : (((Rows.moveBackRow).mapsOut == (Tryz.pinned.checked.prog).mapsAmong Tryz.f5.resultTypes.toList)) = true := by kernel_rfl
theorem j16 : (((Rows.moveBackRow).loops == (Tryz.f5.params.toList ++ (Rows.moveBackSpec).plain.varTypes (Tryz.pinned.checked.prog)).any ((Tryz.pinned.checked.prog).loopsFrom ·))) = true := by kernel_rfl
theorem j17 : (((Rows.moveBackRow).wideKeys == (Tryz.f5.params.toList ++ (Rows.moveBackSpec).plain.varTypes (Tryz.pinned.checked.prog) ++ Tryz.f5.resultTypes.toList).any ((Tryz.pinned.checked.prog).wideKeysFrom ·))) = true := by kernel_rfl
theorem j18 : ((Rows.moveBackSpec).vars.all ((Tryz.pinned.checked.prog).varReadable ·)) = true := by kernel_rfl
theorem j19 : (Tryz.f5.resultTypes.all (fun t => (Tryz.pinned.checked.prog).readableRec t && decide (t < (Tryz.pinned.checked.prog).types.size))) = true := by kernel_rfl
theorem j20 : (((Rows.moveBackRow).ifacesOut == Tryz.f5.resultTypes.toList.any ((Tryz.pinned.checked.prog).ifacesRec ·))) = true := by kernel_rfl
theorem j21 : (((Rows.moveBackRow).loopsOut == Tryz.f5.resultTypes.toList.any ((Tryz.pinned.checked.prog).loopsFrom ·))) = true := by kernel_rfl
theorem j22 : (((Rows.moveBackRow).plainKeys == (Tryz.pinned.checked.prog).plainKeys)) = true := by kernel_rfl
theorem j23 : ((Rows.moveBackRow).shortTexts.isNone) = true := by kernel_rfl
theorem j24 : ((Tryz.pinned.checked.prog).stopsHeard) = true := by kernel_rfl
theorem j25 : ((Tryz.pinned.checked.prog).mayEnter) = true := by kernel_rfl
theorem j26 : (((Rows.moveBackRow).lifted == (Tryz.pinned.checked.prog).liftsFinal)) = true := by kernel_rfl
theorem j27 : (((Tryz.pinned.checked.prog).make == some (Rows.moveBackRow).make)) = true := by kernel_rfl
theorem j28 (X : List (Option IntKind)) : ((Rows.moveBackRow).kinds == (if (Rows.moveBackRow).domain.isEmpty then [] else X)) = true := rfl
theorem j29 : (((Rows.moveBackRow).pinned == (Rows.moveBackRow).pinnedBy)) = true := by kernel_rfl
theorem j30 : (((Rows.moveBackRow).veiled == (Tryz.f5.params.toList ++ (Rows.moveBackSpec).plain.varTypes (Tryz.pinned.checked.prog) ++ Tryz.f5.resultTypes.toList).any ((Tryz.pinned.checked.prog).veiledRec ·))) = true := by kernel_rfl
theorem j31 : ((Rows.moveBackRow).veiledFits (Tryz.pinned.checked.prog) Tryz.f5.params.toList (Tryz.f5.params.toList ++ (Rows.moveBackSpec).plain.varTypes (Tryz.pinned.checked.prog) ++ Tryz.f5.resultTypes.toList)) = true := by kernel_rfl
end Go.Proofs.YtdmlghfggninbaaGreatDoor.moveBack

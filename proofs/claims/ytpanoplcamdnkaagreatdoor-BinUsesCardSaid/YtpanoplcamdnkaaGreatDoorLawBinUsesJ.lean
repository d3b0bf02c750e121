/- The closed facts of the law BinUses's row, each by the kernel. No conditions. -/
import Derived.Test.YtpanoplcamdnkaaGreatDoorRows
import Derived.Test.YtpanoplcamdnkaaGreatDoorChecked
import Derived.JoinedOf
import Derived.ProofKit
import Derived.WalkKit
namespace Go.Proofs.YtpanoplcamdnkaaGreatDoor.binUses
open Go Go.ChangeShapes Go.WideShapes Go.ChangeAt Go.RowKit
open Go.ChangeMaps (open_string shut_string)
set_option linter.unusedVariables false

theorem j0 : ((Rows.binUsesRow).wf (OpenSpec.ofChange (Rows.binUsesSpec))) = true := by kernel_rfl
theorem j1 : (laidOutB (Tryz.pinned.checked.prog)) = true := by kernel_rfl
theorem j2 : (mapsRowed (Tryz.pinned.checked.prog)) = true := by kernel_rfl
theorem j3 : (Tryz.f4.params.all ((Tryz.pinned.checked.prog).readableRec ·)) = true := by kernel_rfl
theorem j4 : (namedTie (Tryz.pinned.checked.prog) (Rows.binUsesRow).named (Rows.binUsesSpec).vars) = true := by kernel_rfl
theorem j5 : (((Rows.binUsesRow).stops == [])) = true := by kernel_rfl
theorem j6 : (((Tryz.pinned.checked.prog).stops == [])) = true := by kernel_rfl
theorem j7 : (((Rows.binUsesRow).knobs == [])) = true := by kernel_rfl
theorem j8 : (((Tryz.pinned.checked.prog).stopKnobs == [])) = true := by kernel_rfl
theorem j9 : (((Rows.binUsesRow).inPlace == (Tryz.pinned.checked.prog).inPlace 4)) = true := by kernel_rfl
theorem j10 : (((Rows.binUsesRow).unfollowed == (Tryz.pinned.checked.prog).unfollowed 4)) = true := by kernel_rfl
theorem j11 : (((Rows.binUsesRow).recurses == (Tryz.pinned.checked.prog).recurses 4)) = true := by kernel_rfl
theorem j12 : (((Rows.binUsesRow).named == (Tryz.pinned.checked.prog).varsNamed 4)) = true := by kernel_rfl
theorem j13 : (((Rows.binUsesRow).maps == (Tryz.f4.params.toList ++ (Rows.binUsesSpec).plain.varTypes (Tryz.pinned.checked.prog)).any ((Tryz.pinned.checked.prog).mapsRec ·))) = true := by kernel_rfl
theorem j14 : (((Rows.binUsesRow).ifaces == (Tryz.f4.params.toList ++ (Rows.binUsesSpec).plain.varTypes (Tryz.pinned.checked.prog)).any ((Tryz.pinned.checked.prog).ifacesRec ·))) = true := by kernel_rfl
theorem j15 : (((Rows.binUsesRow).mapsOut == (Tryz.pinned.checked.prog).mapsAmong Tryz.f4.resultTypes.toList)) = true := by kernel_rfl
theorem j16 : (((Rows.binUsesRow).loops == (Tryz.f4.params.toList ++ (Rows.binUsesSpec).plain.varTypes (Tryz.pinned.checked.prog)).any ((Tryz.pinned.checked.prog).loopsFrom ·))) = true := by kernel_rfl
theorem j17 : (((Rows.binUsesRow).wideKeys == (Tryz.f4.params.toList ++ (Rows.binUsesSpec).plain.varTypes (Tryz.pinned.checked.prog) ++ Tryz.f4.resultTypes.toList).any ((Tryz.pinned.checked.prog).wideKeysFrom ·))) = true := by kernel_rfl
theorem j18 : ((Rows.binUsesSpec).vars.all ((Tryz.pinned.checked.prog).varReadable ·)) = true := by kernel_rfl
theorem j19 : (Tryz.f4.resultTypes.all (fun t => (Tryz.pinned.checked.prog).readableRec t && decide (t < (Tryz.pinned.checked.prog).types.size))) = true := by kernel_rfl
theorem j20 : (((Rows.binUsesRow).ifacesOut == Tryz.f4.resultTypes.toList.any ((Tryz.pinned.checked.prog).ifacesRec ·))) = true := by kernel_rfl
theorem j21 : (((Rows.binUsesRow).loopsOut == Tryz.f4.resultTypes.toList.any ((Tryz.pinned.checked.prog).loopsFrom ·))) = true := by kernel_rfl
theorem j22 : (((Rows.binUsesRow).plainKeys == (Tryz.pinned.checked.prog).plainKeys)) = true := by kernel_rfl
theorem j23 : ((Rows.binUsesRow).shortTexts.isNone) = true := by kernel_rfl
theorem j24 : ((Tryz.pinned.checked.prog).stopsHeard) = true := by kernel_rfl
theorem j25 : ((Tryz.pinned.checked.prog).mayEnter) = true := by kernel_rfl
theorem j26 : (((Rows.binUsesRow).lifted == (Tryz.pinned.checked.prog).liftsFinal)) = true := by kernel_rfl
theorem j27 : (((Tryz.pinned.checked.prog).make == some (Rows.binUsesRow).make)) = true := by kernel_rfl
theorem j28 (X : List (Option IntKind)) : ((Rows.binUsesRow).kinds == (if (Rows.binUsesRow).domain.isEmpty then [] else X)) = true := rfl
theorem j29 : (((Rows.binUsesRow).pinned == (Rows.binUsesRow).pinnedBy)) = true := by kernel_rfl
theorem j30 : (((Rows.binUsesRow).veiled == (Tryz.f4.params.toList ++ (Rows.binUsesSpec).plain.varTypes (Tryz.pinned.checked.prog) ++ Tryz.f4.resultTypes.toList).any ((Tryz.pinned.checked.prog).veiledRec ·))) = true := by kernel_rfl
theorem j31 : ((Rows.binUsesRow).veiledFits (Tryz.pinned.checked.prog) Tryz.f4.params.toList (Tryz.f4.params.toList ++ (Rows.binUsesSpec).plain.varTypes (Tryz.pinned.checked.prog) ++ Tryz.f4.resultTypes.toList)) = true := by kernel_rfl
end Go.Proofs.YtpanoplcamdnkaaGreatDoor.binUses

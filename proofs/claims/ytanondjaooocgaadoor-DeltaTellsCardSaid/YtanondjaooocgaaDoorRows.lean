/-
  NARROWER THAN 'FOR EVERY INPUT', by the rows' own cells (each row's printed sentence says how): DeltaBack: laid · Names: laid · DeltaTells: laid.
  DERIVED. THE GIVEN ROWS OF THIS SEAT. 3 by the template 'for every input the law returns true; each argument reads behind the call as it read before'; 0 by the template 'total and deterministic' (their statements: YtanondjaooocgaaDoorTotals.lean).
  GIVEN WITH THE SEED: the statements are not yours to turn. If you find one false, say at which input.
  Laid BY PROGRAM, IN A SANDBOX (cutbox-rows.mjs): the forced cells as the released guide's own fill.sh prints them over the translation ab52c463095f5bc2… (all of the seat's roots in one cut). By AI agents, Wed Nov 11 2026. No macro, syntax, notation, axiom, sorry.
-/
import Derived.Test.YtanondjaooocgaaDoorChecked
import GoSem.Claim
import GoSem.ClaimJoined
import GoSem.ClaimMapViews
import Derived.JoinedTies
import Derived.KernelRfl
namespace Go.Proofs.YtanondjaooocgaaDoor
/- THE CELL 'sum', in the pinned program and in every row, IS THE sha256 OF THE DUMP (.gsa) THAT YtanondjaooocgaaDoorProg.lean LOADS. Nothing in Lean hashes anything: it is a label: what it is worth is what the hold of that sum in a sandbox is worth. -/
noncomputable def Tryd.pinned : Pinned := { name := "ytanondjaooocgaadoor", sum := "ab52c463095f5bc25dac94c75b11fa8a6e11a89ad9a0f15483dd2e2e7b81bf45", checked := Tryd.checked }
namespace Rows
def none {H : Type} : Left H := { results := [], args := [] }

/- WHAT THE LISTED PACKAGE-LEVEL VARIABLES READ AS WHEN THE CALL BEGINS. Each datum BY PROGRAM (the guide's laid-datum.mjs) off the statement by which the dump's own 'gosem.cut.vars' lays the variable. In a bare row this is a premise. The card (YtanondjaooocgaaDoorCards.lean) ties it to the program's text. -/
def laid_cornbin_api_ErrBound {H : Type} : DataW H := .iface "*errors.errorString" (.ptr (.agg [.lit (.string [99, 111, 114, 110, 98, 105, 110, 58, 32, 98, 111, 117, 110, 100])]))
def laid_cornbin_api_ErrShape {H : Type} : DataW H := .iface "*errors.errorString" (.ptr (.agg [.lit (.string [99, 111, 114, 110, 98, 105, 110, 58, 32, 115, 104, 97, 112, 101])]))
def laid_errors_errorType {H : Type} : DataW H := .iface "internal/reflectlite.rtype" (.agg [.ptr (.lit (.string [101, 114, 114, 111, 114]))])
def laid_cornbin_api_ErrText {H : Type} : DataW H := .iface "*errors.errorString" (.ptr (.agg [.lit (.string [99, 111, 114, 110, 98, 105, 110, 58, 32, 116, 101, 120, 116])]))
def laid_cornbin_api_ErrName {H : Type} : DataW H := .iface "*errors.errorString" (.ptr (.agg [.lit (.string [99, 111, 114, 110, 98, 105, 110, 58, 32, 110, 97, 109, 101])]))
def laid_cornbin_api_ErrNone {H : Type} : DataW H := .iface "*errors.errorString" (.ptr (.agg [.lit (.string [99, 111, 114, 110, 98, 105, 110, 58, 32, 110, 111, 110, 101])]))
def laid_cornbin_api_ErrExist {H : Type} : DataW H := .iface "*errors.errorString" (.ptr (.agg [.lit (.string [99, 111, 114, 110, 98, 105, 110, 58, 32, 101, 120, 105, 115, 116])]))
def laid_cornbin_api_ErrFull {H : Type} : DataW H := .iface "*errors.errorString" (.ptr (.agg [.lit (.string [99, 111, 114, 110, 98, 105, 110, 58, 32, 102, 117, 108, 108])]))
def laid_cornbin_api_ErrOrder {H : Type} : DataW H := .iface "*errors.errorString" (.ptr (.agg [.lit (.string [99, 111, 114, 110, 98, 105, 110, 58, 32, 111, 114, 100, 101, 114])]))
def laid_cornbin_api_ErrSum {H : Type} : DataW H := .iface "*errors.errorString" (.ptr (.agg [.lit (.string [99, 111, 114, 110, 98, 105, 110, 58, 32, 115, 117, 109])]))
def laid_cornbin_api_ErrClash {H : Type} : DataW H := .iface "*errors.errorString" (.ptr (.agg [.lit (.string [99, 111, 114, 110, 98, 105, 110, 58, 32, 99, 108, 97, 115, 104])]))
def laid_cornbin_api_ErrUsed {H : Type} : DataW H := .iface "*errors.errorString" (.ptr (.agg [.lit (.string [99, 111, 114, 110, 98, 105, 110, 58, 32, 117, 115, 101, 100])]))
def laid_cornbin_api_ErrOff {H : Type} : DataW H := .iface "*errors.errorString" (.ptr (.agg [.lit (.string [99, 111, 114, 110, 98, 105, 110, 58, 32, 111, 102, 102])]))

/-- 'cornbinlaw3.DeltaBack': WHATEVER THE INPUT: true; the input reads as it did. -/
def deltaBackSpec : ChangeSpec := { name := "deltaBack", fn := fun _ => fun
  | [d1, d2, d3] => { results := [.lit (.bool true)], args := [d1, d2, d3] }
  | _ => none }
def deltaBackRow : OpenClaim := { program := "ytanondjaooocgaadoor", sum := "ab52c463095f5bc25dac94c75b11fa8a6e11a89ad9a0f15483dd2e2e7b81bf45", func := "cornbin/cornbinlaw3.DeltaBack", spec := "deltaBack", unfollowed := true, recurses := true, named := ["cornbin/api.ErrBound", "cornbin/api.ErrShape"], apart := false, laid := [("cornbin/api.ErrBound", laid_cornbin_api_ErrBound), ("cornbin/api.ErrShape", laid_cornbin_api_ErrShape)] }
def DeltaBackSaid : Prop := deltaBackRow.holds Tryd.pinned (OpenSpec.ofChange deltaBackSpec)

/-- ITS FALSE NEIGHBOUR: 'it returns false'. Refute it at one input. -/
def deltaBackWrong : ChangeSpec := { name := "deltaBack", fn := fun _ => fun
  | [d1, d2, d3] => { results := [.lit (.bool false)], args := [d1, d2, d3] }
  | _ => none }
def DeltaBackWrongFalsely : Prop := deltaBackRow.holds Tryd.pinned (OpenSpec.ofChange deltaBackWrong)

/-- 'cornbinlaw1.Names': WHATEVER THE INPUT: true; the input reads as it did. -/
def namesSpec : ChangeSpec := { name := "names", fn := fun _ => fun
  | [] => { results := [.lit (.bool true)], args := [] }
  | _ => none }
def namesRow : OpenClaim := { program := "ytanondjaooocgaadoor", sum := "ab52c463095f5bc25dac94c75b11fa8a6e11a89ad9a0f15483dd2e2e7b81bf45", func := "cornbin/cornbinlaw1.Names", spec := "names", inPlace := ["internal/reflectlite.ValueOf", "(internal/reflectlite.Value).Type", "(internal/reflectlite.Value).IsNil", "internal/reflectlite.TypeOf", "(internal/reflectlite.Value).Elem", "(internal/reflectlite.Value).Set"], unfollowed := true, recurses := true, named := ["cornbin/api.ErrText", "cornbin/api.ErrBound", "cornbin/api.ErrShape", "cornbin/api.ErrName", "cornbin/api.ErrNone", "cornbin/api.ErrExist", "cornbin/api.ErrFull", "cornbin/api.ErrOrder", "cornbin/api.ErrSum", "cornbin/api.ErrClash", "cornbin/api.ErrUsed", "cornbin/api.ErrOff", "errors.errorType"], apart := false, laid := [("errors.errorType", laid_errors_errorType), ("cornbin/api.ErrText", laid_cornbin_api_ErrText), ("cornbin/api.ErrBound", laid_cornbin_api_ErrBound), ("cornbin/api.ErrShape", laid_cornbin_api_ErrShape), ("cornbin/api.ErrName", laid_cornbin_api_ErrName), ("cornbin/api.ErrNone", laid_cornbin_api_ErrNone), ("cornbin/api.ErrExist", laid_cornbin_api_ErrExist), ("cornbin/api.ErrFull", laid_cornbin_api_ErrFull), ("cornbin/api.ErrOrder", laid_cornbin_api_ErrOrder), ("cornbin/api.ErrSum", laid_cornbin_api_ErrSum), ("cornbin/api.ErrClash", laid_cornbin_api_ErrClash), ("cornbin/api.ErrUsed", laid_cornbin_api_ErrUsed), ("cornbin/api.ErrOff", laid_cornbin_api_ErrOff)] }
def NamesSaid : Prop := namesRow.holds Tryd.pinned (OpenSpec.ofChange namesSpec)

/-- ITS FALSE NEIGHBOUR: 'it returns false'. Refute it at one input. -/
def namesWrong : ChangeSpec := { name := "names", fn := fun _ => fun
  | [] => { results := [.lit (.bool false)], args := [] }
  | _ => none }
def NamesWrongFalsely : Prop := namesRow.holds Tryd.pinned (OpenSpec.ofChange namesWrong)

/-- 'cornbinlaw3.DeltaTells': WHATEVER THE INPUT: true; the input reads as it did. -/
def deltaTellsSpec : ChangeSpec := { name := "deltaTells", fn := fun _ => fun
  | [d1, d2, d3] => { results := [.lit (.bool true)], args := [d1, d2, d3] }
  | _ => none }
def deltaTellsRow : OpenClaim := { program := "ytanondjaooocgaadoor", sum := "ab52c463095f5bc25dac94c75b11fa8a6e11a89ad9a0f15483dd2e2e7b81bf45", func := "cornbin/cornbinlaw3.DeltaTells", spec := "deltaTells", inPlace := ["internal/reflectlite.ValueOf", "(internal/reflectlite.Value).Type", "(internal/reflectlite.Value).IsNil", "internal/reflectlite.TypeOf", "(internal/reflectlite.Value).Elem", "(internal/reflectlite.Value).Set"], unfollowed := true, recurses := true, named := ["cornbin/api.ErrBound", "cornbin/api.ErrShape", "cornbin/api.ErrText", "cornbin/api.ErrName", "cornbin/api.ErrNone", "cornbin/api.ErrExist", "cornbin/api.ErrFull", "cornbin/api.ErrOrder", "cornbin/api.ErrSum", "cornbin/api.ErrClash", "cornbin/api.ErrUsed", "cornbin/api.ErrOff", "errors.errorType"], apart := false, laid := [("errors.errorType", laid_errors_errorType), ("cornbin/api.ErrText", laid_cornbin_api_ErrText), ("cornbin/api.ErrBound", laid_cornbin_api_ErrBound), ("cornbin/api.ErrShape", laid_cornbin_api_ErrShape), ("cornbin/api.ErrName", laid_cornbin_api_ErrName), ("cornbin/api.ErrNone", laid_cornbin_api_ErrNone), ("cornbin/api.ErrExist", laid_cornbin_api_ErrExist), ("cornbin/api.ErrFull", laid_cornbin_api_ErrFull), ("cornbin/api.ErrOrder", laid_cornbin_api_ErrOrder), ("cornbin/api.ErrSum", laid_cornbin_api_ErrSum), ("cornbin/api.ErrClash", laid_cornbin_api_ErrClash), ("cornbin/api.ErrUsed", laid_cornbin_api_ErrUsed), ("cornbin/api.ErrOff", laid_cornbin_api_ErrOff)] }
def DeltaTellsSaid : Prop := deltaTellsRow.holds Tryd.pinned (OpenSpec.ofChange deltaTellsSpec)

/-- ITS FALSE NEIGHBOUR: 'it returns false'. Refute it at one input. -/
def deltaTellsWrong : ChangeSpec := { name := "deltaTells", fn := fun _ => fun
  | [d1, d2, d3] => { results := [.lit (.bool false)], args := [d1, d2, d3] }
  | _ => none }
def DeltaTellsWrongFalsely : Prop := deltaTellsRow.holds Tryd.pinned (OpenSpec.ofChange deltaTellsWrong)

/- THE SECOND FORM. 'bulk': how many values and letters a reading holds, each counted each time it is reached (what is shared counts as often as it is met; a slice's spare places count too). A statement '..UptoSaid' is the law's where the arguments, and the package variables that the reading takes, are together of bulk at most 1048576: NARROWER than '..Said'. Prove '..Said' where nothing that the law and all that it calls make is longer than what came in: it says more and counts as full. Else prove '..UptoSaid'. A law counts once. -/
mutual
def uptoBulk {H : Type} : DataW H → Nat
  | .lit (.string bytes) => bytes.length + 1
  | .lit _ => 1
  | .nil => 1
  | .ptr d => uptoBulk d + 1
  | .slice elems spare => uptoBulkAll elems + uptoBulkAll spare + 1
  | .agg parts => uptoBulkAll parts + 1
  | .iface _ d => uptoBulk d + 1
  | .map entries => uptoBulkEntries entries + 1
  | .held _ => 1
def uptoBulkAll {H : Type} : List (DataW H) → Nat
  | [] => 0
  | d :: r => uptoBulk d + uptoBulkAll r
def uptoBulkEntries {H : Type} : List (Lit × DataW H) → Nat
  | [] => 0
  | x :: r => uptoBulkEntry x + uptoBulkEntries r
def uptoBulkEntry {H : Type} : Lit × DataW H → Nat
  | (.string bytes, d) => bytes.length + uptoBulk d + 1
  | (_, d) => uptoBulk d + 1
 end
def uptoSmall : (H : Type) → List (DataW H) → Bool := fun _ ds => decide (uptoBulkAll ds ≤ 1048576)
def OpenSpec.upto (s : _root_.Go.ChangeSpec) : _root_.Go.OpenSpec := { _root_.Go.OpenSpec.ofChange s with cond := some uptoSmall }

/-- 'cornbinlaw3.DeltaBack', WHERE WHAT IT READS IS OF BULK AT MOST 1048576: true; the input reads as it did. -/
def deltaBackUptoRow : OpenClaim := { program := "ytanondjaooocgaadoor", sum := "ab52c463095f5bc25dac94c75b11fa8a6e11a89ad9a0f15483dd2e2e7b81bf45", func := "cornbin/cornbinlaw3.DeltaBack", spec := "deltaBack", unfollowed := true, recurses := true, named := ["cornbin/api.ErrBound", "cornbin/api.ErrShape"], apart := false, laid := [("cornbin/api.ErrBound", laid_cornbin_api_ErrBound), ("cornbin/api.ErrShape", laid_cornbin_api_ErrShape)], narrowed := true }
def DeltaBackUptoSaid : Prop := deltaBackUptoRow.holds Tryd.pinned (OpenSpec.upto deltaBackSpec)

/-- 'cornbinlaw1.Names', WHERE WHAT IT READS IS OF BULK AT MOST 1048576: true; the input reads as it did. -/
def namesUptoRow : OpenClaim := { program := "ytanondjaooocgaadoor", sum := "ab52c463095f5bc25dac94c75b11fa8a6e11a89ad9a0f15483dd2e2e7b81bf45", func := "cornbin/cornbinlaw1.Names", spec := "names", inPlace := ["internal/reflectlite.ValueOf", "(internal/reflectlite.Value).Type", "(internal/reflectlite.Value).IsNil", "internal/reflectlite.TypeOf", "(internal/reflectlite.Value).Elem", "(internal/reflectlite.Value).Set"], unfollowed := true, recurses := true, named := ["cornbin/api.ErrText", "cornbin/api.ErrBound", "cornbin/api.ErrShape", "cornbin/api.ErrName", "cornbin/api.ErrNone", "cornbin/api.ErrExist", "cornbin/api.ErrFull", "cornbin/api.ErrOrder", "cornbin/api.ErrSum", "cornbin/api.ErrClash", "cornbin/api.ErrUsed", "cornbin/api.ErrOff", "errors.errorType"], apart := false, laid := [("errors.errorType", laid_errors_errorType), ("cornbin/api.ErrText", laid_cornbin_api_ErrText), ("cornbin/api.ErrBound", laid_cornbin_api_ErrBound), ("cornbin/api.ErrShape", laid_cornbin_api_ErrShape), ("cornbin/api.ErrName", laid_cornbin_api_ErrName), ("cornbin/api.ErrNone", laid_cornbin_api_ErrNone), ("cornbin/api.ErrExist", laid_cornbin_api_ErrExist), ("cornbin/api.ErrFull", laid_cornbin_api_ErrFull), ("cornbin/api.ErrOrder", laid_cornbin_api_ErrOrder), ("cornbin/api.ErrSum", laid_cornbin_api_ErrSum), ("cornbin/api.ErrClash", laid_cornbin_api_ErrClash), ("cornbin/api.ErrUsed", laid_cornbin_api_ErrUsed), ("cornbin/api.ErrOff", laid_cornbin_api_ErrOff)], narrowed := true }
def NamesUptoSaid : Prop := namesUptoRow.holds Tryd.pinned (OpenSpec.upto namesSpec)

/-- 'cornbinlaw3.DeltaTells', WHERE WHAT IT READS IS OF BULK AT MOST 1048576: true; the input reads as it did. -/
def deltaTellsUptoRow : OpenClaim := { program := "ytanondjaooocgaadoor", sum := "ab52c463095f5bc25dac94c75b11fa8a6e11a89ad9a0f15483dd2e2e7b81bf45", func := "cornbin/cornbinlaw3.DeltaTells", spec := "deltaTells", inPlace := ["internal/reflectlite.ValueOf", "(internal/reflectlite.Value).Type", "(internal/reflectlite.Value).IsNil", "internal/reflectlite.TypeOf", "(internal/reflectlite.Value).Elem", "(internal/reflectlite.Value).Set"], unfollowed := true, recurses := true, named := ["cornbin/api.ErrBound", "cornbin/api.ErrShape", "cornbin/api.ErrText", "cornbin/api.ErrName", "cornbin/api.ErrNone", "cornbin/api.ErrExist", "cornbin/api.ErrFull", "cornbin/api.ErrOrder", "cornbin/api.ErrSum", "cornbin/api.ErrClash", "cornbin/api.ErrUsed", "cornbin/api.ErrOff", "errors.errorType"], apart := false, laid := [("errors.errorType", laid_errors_errorType), ("cornbin/api.ErrText", laid_cornbin_api_ErrText), ("cornbin/api.ErrBound", laid_cornbin_api_ErrBound), ("cornbin/api.ErrShape", laid_cornbin_api_ErrShape), ("cornbin/api.ErrName", laid_cornbin_api_ErrName), ("cornbin/api.ErrNone", laid_cornbin_api_ErrNone), ("cornbin/api.ErrExist", laid_cornbin_api_ErrExist), ("cornbin/api.ErrFull", laid_cornbin_api_ErrFull), ("cornbin/api.ErrOrder", laid_cornbin_api_ErrOrder), ("cornbin/api.ErrSum", laid_cornbin_api_ErrSum), ("cornbin/api.ErrClash", laid_cornbin_api_ErrClash), ("cornbin/api.ErrUsed", laid_cornbin_api_ErrUsed), ("cornbin/api.ErrOff", laid_cornbin_api_ErrOff)], narrowed := true }
def DeltaTellsUptoSaid : Prop := deltaTellsUptoRow.holds Tryd.pinned (OpenSpec.upto deltaTellsSpec)

end Rows
end Go.Proofs.YtanondjaooocgaaDoor

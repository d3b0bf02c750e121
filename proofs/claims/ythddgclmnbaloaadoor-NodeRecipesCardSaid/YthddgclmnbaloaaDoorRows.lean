/-
  NARROWER THAN 'FOR EVERY INPUT', by the rows' own cells (each row's printed sentence says how): NodeRecipes: laid · BinActs: laid.
  DERIVED. THE GIVEN ROWS OF THIS SEAT. 2 by the template 'for every input the law returns true; each argument reads behind the call as it read before'; 0 by the template 'total and deterministic' (their statements: YthddgclmnbaloaaDoorTotals.lean).
  GIVEN WITH THE SEED: the statements are not yours to turn. If you find one false, say at which input.
  Laid BY PROGRAM, IN A SANDBOX (cutbox-rows.mjs): the forced cells as the released guide's own fill.sh prints them over the translation c738e60fc0c2f164… (all of the seat's roots in one cut). By AI agents, Wed Nov 11 2026. No macro, syntax, notation, axiom, sorry.
-/
import Derived.Test.YthddgclmnbaloaaDoorChecked
import GoSem.PinnedTables
import GoSem.Claim
import GoSem.ClaimJoined
import GoSem.ClaimMapViews
import Derived.JoinedTies
import Derived.KernelRfl
namespace Go.Proofs.YthddgclmnbaloaaDoor
/- THE CELL 'sum', in the pinned program and in every row, IS THE sha256 OF THE DUMP (.gsa) THAT YthddgclmnbaloaaDoorProg.lean LOADS. Nothing in Lean hashes anything: it is a label: what it is worth is what the hold of that sum in a sandbox is worth. -/
noncomputable def Tryd.pinned : Pinned := { name := "ythddgclmnbaloaadoor", sum := "c738e60fc0c2f1649f4660ba5e33ce0e8fd5286dcb5dc57e4e2c0ad1b8465c39", checked := Tryd.checked }
namespace Rows
def none {H : Type} : Left H := { results := [], args := [] }

/- WHAT THE LISTED PACKAGE-LEVEL VARIABLES READ AS WHEN THE CALL BEGINS. Each datum BY PROGRAM (the guide's laid-datum.mjs) off the statement by which the dump's own 'gosem.cut.vars' lays the variable. In a bare row this is a premise. The card (YthddgclmnbaloaaDoorCards.lean) ties it to the program's text. -/
def laid_unicode_utf8_acceptRanges {H : Type} : DataW H := .agg [.agg [.lit (.int .u8 128), .lit (.int .u8 191)], .agg [.lit (.int .u8 160), .lit (.int .u8 191)], .agg [.lit (.int .u8 128), .lit (.int .u8 159)], .agg [.lit (.int .u8 144), .lit (.int .u8 191)], .agg [.lit (.int .u8 128), .lit (.int .u8 143)], .agg [.lit (.int .u8 0), .lit (.int .u8 0)], .agg [.lit (.int .u8 0), .lit (.int .u8 0)], .agg [.lit (.int .u8 0), .lit (.int .u8 0)], .agg [.lit (.int .u8 0), .lit (.int .u8 0)], .agg [.lit (.int .u8 0), .lit (.int .u8 0)], .agg [.lit (.int .u8 0), .lit (.int .u8 0)], .agg [.lit (.int .u8 0), .lit (.int .u8 0)], .agg [.lit (.int .u8 0), .lit (.int .u8 0)], .agg [.lit (.int .u8 0), .lit (.int .u8 0)], .agg [.lit (.int .u8 0), .lit (.int .u8 0)], .agg [.lit (.int .u8 0), .lit (.int .u8 0)]]
def laid_cornbin_api_ErrBound {H : Type} : DataW H := .iface "*errors.errorString" (.ptr (.agg [.lit (.string [99, 111, 114, 110, 98, 105, 110, 58, 32, 98, 111, 117, 110, 100])]))
def laid_cornbin_api_ErrShape {H : Type} : DataW H := .iface "*errors.errorString" (.ptr (.agg [.lit (.string [99, 111, 114, 110, 98, 105, 110, 58, 32, 115, 104, 97, 112, 101])]))
def laid_cornbin_api_ErrName {H : Type} : DataW H := .iface "*errors.errorString" (.ptr (.agg [.lit (.string [99, 111, 114, 110, 98, 105, 110, 58, 32, 110, 97, 109, 101])]))
def laid_cornbin_api_ErrNone {H : Type} : DataW H := .iface "*errors.errorString" (.ptr (.agg [.lit (.string [99, 111, 114, 110, 98, 105, 110, 58, 32, 110, 111, 110, 101])]))
def laid_cornbin_api_ErrExist {H : Type} : DataW H := .iface "*errors.errorString" (.ptr (.agg [.lit (.string [99, 111, 114, 110, 98, 105, 110, 58, 32, 101, 120, 105, 115, 116])]))
def laid_cornbin_api_ErrFull {H : Type} : DataW H := .iface "*errors.errorString" (.ptr (.agg [.lit (.string [99, 111, 114, 110, 98, 105, 110, 58, 32, 102, 117, 108, 108])]))
def laid_cornbin_api_ErrSum {H : Type} : DataW H := .iface "*errors.errorString" (.ptr (.agg [.lit (.string [99, 111, 114, 110, 98, 105, 110, 58, 32, 115, 117, 109])]))
def laid_cornbin_api_ErrClash {H : Type} : DataW H := .iface "*errors.errorString" (.ptr (.agg [.lit (.string [99, 111, 114, 110, 98, 105, 110, 58, 32, 99, 108, 97, 115, 104])]))
/-- One of Go's own tables, pinned by name: the form's constant. -/
def laid_unicode_utf8_first : DataW Unit := Go.Pinned.utf8First
def laid_errors_errorType {H : Type} : DataW H := .iface "internal/reflectlite.rtype" (.agg [.ptr (.lit (.string [101, 114, 114, 111, 114]))])
def laid_cornbin_api_ErrText {H : Type} : DataW H := .iface "*errors.errorString" (.ptr (.agg [.lit (.string [99, 111, 114, 110, 98, 105, 110, 58, 32, 116, 101, 120, 116])]))
def laid_cornbin_api_ErrOrder {H : Type} : DataW H := .iface "*errors.errorString" (.ptr (.agg [.lit (.string [99, 111, 114, 110, 98, 105, 110, 58, 32, 111, 114, 100, 101, 114])]))
def laid_cornbin_api_ErrUsed {H : Type} : DataW H := .iface "*errors.errorString" (.ptr (.agg [.lit (.string [99, 111, 114, 110, 98, 105, 110, 58, 32, 117, 115, 101, 100])]))
def laid_cornbin_api_ErrOff {H : Type} : DataW H := .iface "*errors.errorString" (.ptr (.agg [.lit (.string [99, 111, 114, 110, 98, 105, 110, 58, 32, 111, 102, 102])]))

/-- 'cornbinlaw2.NodeRecipes': WHATEVER THE INPUT: true; the input reads as it did. -/
def nodeRecipesSpec : ChangeSpec := { name := "nodeRecipes", fn := fun _ => fun
  | [d] => { results := [.lit (.bool true)], args := [d] }
  | _ => none }
def nodeRecipesRow : OpenClaim := { program := "ythddgclmnbaloaadoor", sum := "c738e60fc0c2f1649f4660ba5e33ce0e8fd5286dcb5dc57e4e2c0ad1b8465c39", func := "cornbin/cornbinlaw2.NodeRecipes", spec := "nodeRecipes", inPlace := ["internal/bytealg.IndexByteString", "internal/bytealg.IndexString", "maps.clone", "internal/abi.NoEscape", "internal/bytealg.MakeNoZero"], unfollowed := true, recurses := true, named := ["cornbin/api.ErrExist", "cornbin/api.ErrFull", "cornbin/api.ErrName", "cornbin/api.ErrBound", "unicode/utf8.first", "unicode/utf8.acceptRanges", "cornbin/api.ErrClash", "cornbin/api.ErrNone", "cornbin/api.ErrShape", "cornbin/api.ErrSum", "internal/bytealg.MaxLen"], plainKeys := false, apart := false, laid := [("unicode/utf8.acceptRanges", laid_unicode_utf8_acceptRanges), ("cornbin/api.ErrBound", laid_cornbin_api_ErrBound), ("cornbin/api.ErrShape", laid_cornbin_api_ErrShape), ("cornbin/api.ErrName", laid_cornbin_api_ErrName), ("cornbin/api.ErrNone", laid_cornbin_api_ErrNone), ("cornbin/api.ErrExist", laid_cornbin_api_ErrExist), ("cornbin/api.ErrFull", laid_cornbin_api_ErrFull), ("cornbin/api.ErrSum", laid_cornbin_api_ErrSum), ("cornbin/api.ErrClash", laid_cornbin_api_ErrClash), ("unicode/utf8.first", laid_unicode_utf8_first)] }
def NodeRecipesSaid : Prop := nodeRecipesRow.holds Tryd.pinned (OpenSpec.ofChange nodeRecipesSpec)

/-- ITS FALSE NEIGHBOUR: 'it returns false'. Refute it at one input. -/
def nodeRecipesWrong : ChangeSpec := { name := "nodeRecipes", fn := fun _ => fun
  | [d] => { results := [.lit (.bool false)], args := [d] }
  | _ => none }
def NodeRecipesWrongFalsely : Prop := nodeRecipesRow.holds Tryd.pinned (OpenSpec.ofChange nodeRecipesWrong)

/-- 'cornbinlaw1.BinActs': WHATEVER THE INPUT: true; the input reads as it did. -/
def binActsSpec : ChangeSpec := { name := "binActs", fn := fun _ => fun
  | [d] => { results := [.lit (.bool true)], args := [d] }
  | _ => none }
def binActsRow : OpenClaim := { program := "ythddgclmnbaloaadoor", sum := "c738e60fc0c2f1649f4660ba5e33ce0e8fd5286dcb5dc57e4e2c0ad1b8465c39", func := "cornbin/cornbinlaw1.BinActs", spec := "binActs", inPlace := ["internal/reflectlite.ValueOf", "(internal/reflectlite.Value).Type", "(internal/reflectlite.Value).IsNil", "internal/reflectlite.TypeOf", "(internal/reflectlite.Value).Elem", "(internal/reflectlite.Value).Set", "maps.clone"], unfollowed := true, recurses := true, named := ["cornbin/api.ErrBound", "cornbin/api.ErrClash", "cornbin/api.ErrFull", "cornbin/api.ErrNone", "cornbin/api.ErrText", "cornbin/api.ErrShape", "cornbin/api.ErrName", "cornbin/api.ErrExist", "cornbin/api.ErrOrder", "cornbin/api.ErrSum", "cornbin/api.ErrUsed", "cornbin/api.ErrOff", "errors.errorType"], plainKeys := false, apart := false, laid := [("errors.errorType", laid_errors_errorType), ("cornbin/api.ErrText", laid_cornbin_api_ErrText), ("cornbin/api.ErrBound", laid_cornbin_api_ErrBound), ("cornbin/api.ErrShape", laid_cornbin_api_ErrShape), ("cornbin/api.ErrName", laid_cornbin_api_ErrName), ("cornbin/api.ErrNone", laid_cornbin_api_ErrNone), ("cornbin/api.ErrExist", laid_cornbin_api_ErrExist), ("cornbin/api.ErrFull", laid_cornbin_api_ErrFull), ("cornbin/api.ErrOrder", laid_cornbin_api_ErrOrder), ("cornbin/api.ErrSum", laid_cornbin_api_ErrSum), ("cornbin/api.ErrClash", laid_cornbin_api_ErrClash), ("cornbin/api.ErrUsed", laid_cornbin_api_ErrUsed), ("cornbin/api.ErrOff", laid_cornbin_api_ErrOff)] }
def BinActsSaid : Prop := binActsRow.holds Tryd.pinned (OpenSpec.ofChange binActsSpec)

/-- ITS FALSE NEIGHBOUR: 'it returns false'. Refute it at one input. -/
def binActsWrong : ChangeSpec := { name := "binActs", fn := fun _ => fun
  | [d] => { results := [.lit (.bool false)], args := [d] }
  | _ => none }
def BinActsWrongFalsely : Prop := binActsRow.holds Tryd.pinned (OpenSpec.ofChange binActsWrong)

/- THE SECOND FORM. 'bulk': how many values and letters a reading holds, each counted each time it is reached (what is shared counts as often as it is met; a slice's spare places count too). A statement '..UptoSaid' is the law's where the arguments, and the package variables that the reading takes, are together of bulk at most 1048576: NARROWER than '..Said'. Prove '..Said' where nothing that the law and all that it calls make is longer than what came in: it says more and counts as full. Else prove '..UptoSaid'. A law counts once. -/
mutual
def uptoBulk {H : Type} : DataW H → Nat
  | .lit (.string bytes) => bytes.length + 1
  | .lit _ => 1
  | .nil => 1
  | .ptr d => uptoBulk d + 1
  | .slice elems spare => uptoBulkAll elems + uptoBulkAll spare + 1
  | .agg parts => uptoBulkAll parts + 1
  | .iface _ d => uptoBulk d + 1
  | .map entries => uptoBulkEntries entries + 1
  | .held _ => 1
def uptoBulkAll {H : Type} : List (DataW H) → Nat
  | [] => 0
  | d :: r => uptoBulk d + uptoBulkAll r
def uptoBulkEntries {H : Type} : List (Lit × DataW H) → Nat
  | [] => 0
  | x :: r => uptoBulkEntry x + uptoBulkEntries r
def uptoBulkEntry {H : Type} : Lit × DataW H → Nat
  | (.string bytes, d) => bytes.length + uptoBulk d + 1
  | (_, d) => uptoBulk d + 1
 end
def uptoSmall : (H : Type) → List (DataW H) → Bool := fun _ ds => decide (uptoBulkAll ds ≤ 1048576)
def OpenSpec.upto (s : _root_.Go.ChangeSpec) : _root_.Go.OpenSpec := { _root_.Go.OpenSpec.ofChange s with cond := some uptoSmall }

/-- 'cornbinlaw2.NodeRecipes', WHERE WHAT IT READS IS OF BULK AT MOST 1048576: true; the input reads as it did. -/
def nodeRecipesUptoRow : OpenClaim := { program := "ythddgclmnbaloaadoor", sum := "c738e60fc0c2f1649f4660ba5e33ce0e8fd5286dcb5dc57e4e2c0ad1b8465c39", func := "cornbin/cornbinlaw2.NodeRecipes", spec := "nodeRecipes", inPlace := ["internal/bytealg.IndexByteString", "internal/bytealg.IndexString", "maps.clone", "internal/abi.NoEscape", "internal/bytealg.MakeNoZero"], unfollowed := true, recurses := true, named := ["cornbin/api.ErrExist", "cornbin/api.ErrFull", "cornbin/api.ErrName", "cornbin/api.ErrBound", "unicode/utf8.first", "unicode/utf8.acceptRanges", "cornbin/api.ErrClash", "cornbin/api.ErrNone", "cornbin/api.ErrShape", "cornbin/api.ErrSum", "internal/bytealg.MaxLen"], plainKeys := false, apart := false, laid := [("unicode/utf8.acceptRanges", laid_unicode_utf8_acceptRanges), ("cornbin/api.ErrBound", laid_cornbin_api_ErrBound), ("cornbin/api.ErrShape", laid_cornbin_api_ErrShape), ("cornbin/api.ErrName", laid_cornbin_api_ErrName), ("cornbin/api.ErrNone", laid_cornbin_api_ErrNone), ("cornbin/api.ErrExist", laid_cornbin_api_ErrExist), ("cornbin/api.ErrFull", laid_cornbin_api_ErrFull), ("cornbin/api.ErrSum", laid_cornbin_api_ErrSum), ("cornbin/api.ErrClash", laid_cornbin_api_ErrClash), ("unicode/utf8.first", laid_unicode_utf8_first)], narrowed := true }
def NodeRecipesUptoSaid : Prop := nodeRecipesUptoRow.holds Tryd.pinned (OpenSpec.upto nodeRecipesSpec)

/-- 'cornbinlaw1.BinActs', WHERE WHAT IT READS IS OF BULK AT MOST 1048576: true; the input reads as it did. -/
def binActsUptoRow : OpenClaim := { program := "ythddgclmnbaloaadoor", sum := "c738e60fc0c2f1649f4660ba5e33ce0e8fd5286dcb5dc57e4e2c0ad1b8465c39", func := "cornbin/cornbinlaw1.BinActs", spec := "binActs", inPlace := ["internal/reflectlite.ValueOf", "(internal/reflectlite.Value).Type", "(internal/reflectlite.Value).IsNil", "internal/reflectlite.TypeOf", "(internal/reflectlite.Value).Elem", "(internal/reflectlite.Value).Set", "maps.clone"], unfollowed := true, recurses := true, named := ["cornbin/api.ErrBound", "cornbin/api.ErrClash", "cornbin/api.ErrFull", "cornbin/api.ErrNone", "cornbin/api.ErrText", "cornbin/api.ErrShape", "cornbin/api.ErrName", "cornbin/api.ErrExist", "cornbin/api.ErrOrder", "cornbin/api.ErrSum", "cornbin/api.ErrUsed", "cornbin/api.ErrOff", "errors.errorType"], plainKeys := false, apart := false, laid := [("errors.errorType", laid_errors_errorType), ("cornbin/api.ErrText", laid_cornbin_api_ErrText), ("cornbin/api.ErrBound", laid_cornbin_api_ErrBound), ("cornbin/api.ErrShape", laid_cornbin_api_ErrShape), ("cornbin/api.ErrName", laid_cornbin_api_ErrName), ("cornbin/api.ErrNone", laid_cornbin_api_ErrNone), ("cornbin/api.ErrExist", laid_cornbin_api_ErrExist), ("cornbin/api.ErrFull", laid_cornbin_api_ErrFull), ("cornbin/api.ErrOrder", laid_cornbin_api_ErrOrder), ("cornbin/api.ErrSum", laid_cornbin_api_ErrSum), ("cornbin/api.ErrClash", laid_cornbin_api_ErrClash), ("cornbin/api.ErrUsed", laid_cornbin_api_ErrUsed), ("cornbin/api.ErrOff", laid_cornbin_api_ErrOff)], narrowed := true }
def BinActsUptoSaid : Prop := binActsUptoRow.holds Tryd.pinned (OpenSpec.upto binActsSpec)

end Rows
end Go.Proofs.YthddgclmnbaloaaDoor

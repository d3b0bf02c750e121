/-
  NARROWER THAN 'FOR EVERY INPUT', by the rows' own cells (each row's printed sentence says how): OwnerMoves: laid · TapeCuts: laid · PrintParts: laid · TapeActs: laid · OnceOnce: laid · OnceActs: laid.
  DERIVED. THE GIVEN ROWS OF THIS SEAT. 6 by the template 'for every input the law returns true; each argument reads behind the call as it read before'; 0 by the template 'total and deterministic' (their statements: YtpacalklcdlhoaaDoorTotals.lean).
  GIVEN WITH THE SEED: the statements are not yours to turn. If you find one false, say at which input.
  Laid BY PROGRAM, IN A SANDBOX (cutbox-rows.mjs): the forced cells as the released guide's own fill.sh prints them over the translation aad8b76126648b3b… (all of the seat's roots in one cut). By AI agents, Wed Nov 11 2026. No macro, syntax, notation, axiom, sorry.
-/
import Derived.Test.YtpacalklcdlhoaaDoorChecked
import GoSem.PinnedTables
import GoSem.Claim
import GoSem.ClaimJoined
import GoSem.ClaimMapViews
import Derived.JoinedTies
import Derived.KernelRfl
namespace Go.Proofs.YtpacalklcdlhoaaDoor
/- THE CELL 'sum', in the pinned program and in every row, IS THE sha256 OF THE DUMP (.gsa) THAT YtpacalklcdlhoaaDoorProg.lean LOADS. Nothing in Lean hashes anything: it is a label: what it is worth is what the hold of that sum in a sandbox is worth. -/
noncomputable def Tryd.pinned : Pinned := { name := "ytpacalklcdlhoaadoor", sum := "aad8b76126648b3ba5d4157f30ab1d4a05490cadebcd20ec1c56394cdd242e68", checked := Tryd.checked }
namespace Rows
def none {H : Type} : Left H := { results := [], args := [] }

/- WHAT THE LISTED PACKAGE-LEVEL VARIABLES READ AS WHEN THE CALL BEGINS. Each datum BY PROGRAM (the guide's laid-datum.mjs) off the statement by which the dump's own 'gosem.cut.vars' lays the variable. In a bare row this is a premise. The card (YtpacalklcdlhoaaDoorCards.lean) ties it to the program's text. -/
def laid_math_bits_deBruijn32tab {H : Type} : DataW H := .agg [.lit (.int .u8 0), .lit (.int .u8 1), .lit (.int .u8 28), .lit (.int .u8 2), .lit (.int .u8 29), .lit (.int .u8 14), .lit (.int .u8 24), .lit (.int .u8 3), .lit (.int .u8 30), .lit (.int .u8 22), .lit (.int .u8 20), .lit (.int .u8 15), .lit (.int .u8 25), .lit (.int .u8 17), .lit (.int .u8 4), .lit (.int .u8 8), .lit (.int .u8 31), .lit (.int .u8 27), .lit (.int .u8 13), .lit (.int .u8 23), .lit (.int .u8 21), .lit (.int .u8 19), .lit (.int .u8 16), .lit (.int .u8 7), .lit (.int .u8 26), .lit (.int .u8 12), .lit (.int .u8 18), .lit (.int .u8 6), .lit (.int .u8 11), .lit (.int .u8 5), .lit (.int .u8 10), .lit (.int .u8 9)]
def laid_math_bits_deBruijn64tab {H : Type} : DataW H := .agg [.lit (.int .u8 0), .lit (.int .u8 1), .lit (.int .u8 56), .lit (.int .u8 2), .lit (.int .u8 57), .lit (.int .u8 49), .lit (.int .u8 28), .lit (.int .u8 3), .lit (.int .u8 61), .lit (.int .u8 58), .lit (.int .u8 42), .lit (.int .u8 50), .lit (.int .u8 38), .lit (.int .u8 29), .lit (.int .u8 17), .lit (.int .u8 4), .lit (.int .u8 62), .lit (.int .u8 47), .lit (.int .u8 59), .lit (.int .u8 36), .lit (.int .u8 45), .lit (.int .u8 43), .lit (.int .u8 51), .lit (.int .u8 22), .lit (.int .u8 53), .lit (.int .u8 39), .lit (.int .u8 33), .lit (.int .u8 30), .lit (.int .u8 24), .lit (.int .u8 18), .lit (.int .u8 12), .lit (.int .u8 5), .lit (.int .u8 63), .lit (.int .u8 55), .lit (.int .u8 48), .lit (.int .u8 27), .lit (.int .u8 60), .lit (.int .u8 41), .lit (.int .u8 37), .lit (.int .u8 16), .lit (.int .u8 46), .lit (.int .u8 35), .lit (.int .u8 44), .lit (.int .u8 21), .lit (.int .u8 52), .lit (.int .u8 32), .lit (.int .u8 23), .lit (.int .u8 11), .lit (.int .u8 54), .lit (.int .u8 26), .lit (.int .u8 40), .lit (.int .u8 15), .lit (.int .u8 34), .lit (.int .u8 20), .lit (.int .u8 31), .lit (.int .u8 10), .lit (.int .u8 25), .lit (.int .u8 14), .lit (.int .u8 19), .lit (.int .u8 9), .lit (.int .u8 13), .lit (.int .u8 8), .lit (.int .u8 7), .lit (.int .u8 6)]
def laid_internal_strconv_uint64pow10 {H : Type} : DataW H := .agg [.lit (.int .u64 1), .lit (.int .u64 10), .lit (.int .u64 100), .lit (.int .u64 1000), .lit (.int .u64 10000), .lit (.int .u64 100000), .lit (.int .u64 1000000), .lit (.int .u64 10000000), .lit (.int .u64 100000000), .lit (.int .u64 1000000000), .lit (.int .u64 10000000000), .lit (.int .u64 100000000000), .lit (.int .u64 1000000000000), .lit (.int .u64 10000000000000), .lit (.int .u64 100000000000000), .lit (.int .u64 1000000000000000), .lit (.int .u64 10000000000000000), .lit (.int .u64 100000000000000000), .lit (.int .u64 1000000000000000000), .lit (.int .u64 10000000000000000000)]
def laid_cornbin_api_ErrBound {H : Type} : DataW H := .iface "*errors.errorString" (.ptr (.agg [.lit (.string [99, 111, 114, 110, 98, 105, 110, 58, 32, 98, 111, 117, 110, 100])]))
def laid_cornbin_api_ErrShape {H : Type} : DataW H := .iface "*errors.errorString" (.ptr (.agg [.lit (.string [99, 111, 114, 110, 98, 105, 110, 58, 32, 115, 104, 97, 112, 101])]))
def laid_cornbin_api_ErrNone {H : Type} : DataW H := .iface "*errors.errorString" (.ptr (.agg [.lit (.string [99, 111, 114, 110, 98, 105, 110, 58, 32, 110, 111, 110, 101])]))
def laid_cornbin_api_ErrExist {H : Type} : DataW H := .iface "*errors.errorString" (.ptr (.agg [.lit (.string [99, 111, 114, 110, 98, 105, 110, 58, 32, 101, 120, 105, 115, 116])]))
def laid_cornbin_api_ErrOrder {H : Type} : DataW H := .iface "*errors.errorString" (.ptr (.agg [.lit (.string [99, 111, 114, 110, 98, 105, 110, 58, 32, 111, 114, 100, 101, 114])]))
def laid_cornbin_api_ErrFull {H : Type} : DataW H := .iface "*errors.errorString" (.ptr (.agg [.lit (.string [99, 111, 114, 110, 98, 105, 110, 58, 32, 102, 117, 108, 108])]))
def laid_cornbin_api_ErrOff {H : Type} : DataW H := .iface "*errors.errorString" (.ptr (.agg [.lit (.string [99, 111, 114, 110, 98, 105, 110, 58, 32, 111, 102, 102])]))
def laid_strconv_ErrRange {H : Type} : DataW H := .iface "*errors.errorString" (.ptr (.agg [.lit (.string [118, 97, 108, 117, 101, 32, 111, 117, 116, 32, 111, 102, 32, 114, 97, 110, 103, 101])]))
def laid_strconv_ErrSyntax {H : Type} : DataW H := .iface "*errors.errorString" (.ptr (.agg [.lit (.string [105, 110, 118, 97, 108, 105, 100, 32, 115, 121, 110, 116, 97, 120])]))
def laid_cornbin_api_ErrText {H : Type} : DataW H := .iface "*errors.errorString" (.ptr (.agg [.lit (.string [99, 111, 114, 110, 98, 105, 110, 58, 32, 116, 101, 120, 116])]))
def laid_errors_errorType {H : Type} : DataW H := .iface "internal/reflectlite.rtype" (.agg [.ptr (.lit (.string [101, 114, 114, 111, 114]))])
def laid_cornbin_api_ErrName {H : Type} : DataW H := .iface "*errors.errorString" (.ptr (.agg [.lit (.string [99, 111, 114, 110, 98, 105, 110, 58, 32, 110, 97, 109, 101])]))
def laid_cornbin_api_ErrSum {H : Type} : DataW H := .iface "*errors.errorString" (.ptr (.agg [.lit (.string [99, 111, 114, 110, 98, 105, 110, 58, 32, 115, 117, 109])]))
def laid_cornbin_api_ErrClash {H : Type} : DataW H := .iface "*errors.errorString" (.ptr (.agg [.lit (.string [99, 111, 114, 110, 98, 105, 110, 58, 32, 99, 108, 97, 115, 104])]))
def laid_cornbin_api_ErrUsed {H : Type} : DataW H := .iface "*errors.errorString" (.ptr (.agg [.lit (.string [99, 111, 114, 110, 98, 105, 110, 58, 32, 117, 115, 101, 100])]))
def laid_unicode_utf8_acceptRanges {H : Type} : DataW H := .agg [.agg [.lit (.int .u8 128), .lit (.int .u8 191)], .agg [.lit (.int .u8 160), .lit (.int .u8 191)], .agg [.lit (.int .u8 128), .lit (.int .u8 159)], .agg [.lit (.int .u8 144), .lit (.int .u8 191)], .agg [.lit (.int .u8 128), .lit (.int .u8 143)], .agg [.lit (.int .u8 0), .lit (.int .u8 0)], .agg [.lit (.int .u8 0), .lit (.int .u8 0)], .agg [.lit (.int .u8 0), .lit (.int .u8 0)], .agg [.lit (.int .u8 0), .lit (.int .u8 0)], .agg [.lit (.int .u8 0), .lit (.int .u8 0)], .agg [.lit (.int .u8 0), .lit (.int .u8 0)], .agg [.lit (.int .u8 0), .lit (.int .u8 0)], .agg [.lit (.int .u8 0), .lit (.int .u8 0)], .agg [.lit (.int .u8 0), .lit (.int .u8 0)], .agg [.lit (.int .u8 0), .lit (.int .u8 0)], .agg [.lit (.int .u8 0), .lit (.int .u8 0)]]
/-- One of Go's own tables, pinned by name: the form's constant. -/
def laid_unicode_utf8_first : DataW Unit := Go.Pinned.utf8First

/-- 'cornbinlaw2.OwnerMoves': WHATEVER THE INPUT: true; the input reads as it did. -/
def ownerMovesSpec : ChangeSpec := { name := "ownerMoves", fn := fun _ => fun
  | [d1, d2, d3] => { results := [.lit (.bool true)], args := [d1, d2, d3] }
  | _ => none }
def ownerMovesRow : OpenClaim := { program := "ytpacalklcdlhoaadoor", sum := "aad8b76126648b3ba5d4157f30ab1d4a05490cadebcd20ec1c56394cdd242e68", func := "cornbin/cornbinlaw2.OwnerMoves", spec := "ownerMoves", inPlace := ["internal/abi.NoEscape", "internal/bytealg.MakeNoZero", "slices.overlaps[int]"], unfollowed := true, recurses := true, named := ["cornbin/api.ErrShape", "cornbin/api.ErrNone", "cornbin/api.ErrBound", "cornbin/api.ErrOrder", "internal/strconv.uint64pow10", "math/bits.deBruijn32tab", "math/bits.deBruijn64tab", "cornbin/api.ErrExist"], apart := false, laid := [("math/bits.deBruijn32tab", laid_math_bits_deBruijn32tab), ("math/bits.deBruijn64tab", laid_math_bits_deBruijn64tab), ("internal/strconv.uint64pow10", laid_internal_strconv_uint64pow10), ("cornbin/api.ErrBound", laid_cornbin_api_ErrBound), ("cornbin/api.ErrShape", laid_cornbin_api_ErrShape), ("cornbin/api.ErrNone", laid_cornbin_api_ErrNone), ("cornbin/api.ErrExist", laid_cornbin_api_ErrExist), ("cornbin/api.ErrOrder", laid_cornbin_api_ErrOrder)] }
def OwnerMovesSaid : Prop := ownerMovesRow.holds Tryd.pinned (OpenSpec.ofChange ownerMovesSpec)

/-- ITS FALSE NEIGHBOUR: 'it returns false'. Refute it at one input. -/
def ownerMovesWrong : ChangeSpec := { name := "ownerMoves", fn := fun _ => fun
  | [d1, d2, d3] => { results := [.lit (.bool false)], args := [d1, d2, d3] }
  | _ => none }
def OwnerMovesWrongFalsely : Prop := ownerMovesRow.holds Tryd.pinned (OpenSpec.ofChange ownerMovesWrong)

/-- 'cornbinlaw3.TapeCuts': WHATEVER THE INPUT: true; the input reads as it did. -/
def tapeCutsSpec : ChangeSpec := { name := "tapeCuts", fn := fun _ => fun
  | [d1, d2] => { results := [.lit (.bool true)], args := [d1, d2] }
  | _ => none }
def tapeCutsRow : OpenClaim := { program := "ytpacalklcdlhoaadoor", sum := "aad8b76126648b3ba5d4157f30ab1d4a05490cadebcd20ec1c56394cdd242e68", func := "cornbin/cornbinlaw3.TapeCuts", spec := "tapeCuts", inPlace := ["internal/bytealg.IndexByteString", "internal/bytealg.IndexString"], named := ["cornbin/api.ErrBound", "cornbin/api.ErrShape", "cornbin/api.ErrFull", "internal/strconv.uint64pow10", "math/bits.deBruijn32tab", "math/bits.deBruijn64tab", "cornbin/api.ErrOff", "internal/bytealg.MaxLen", "strconv.ErrSyntax", "strconv.ErrRange"], apart := false, laid := [("math/bits.deBruijn32tab", laid_math_bits_deBruijn32tab), ("math/bits.deBruijn64tab", laid_math_bits_deBruijn64tab), ("internal/strconv.uint64pow10", laid_internal_strconv_uint64pow10), ("cornbin/api.ErrBound", laid_cornbin_api_ErrBound), ("cornbin/api.ErrShape", laid_cornbin_api_ErrShape), ("cornbin/api.ErrFull", laid_cornbin_api_ErrFull), ("cornbin/api.ErrOff", laid_cornbin_api_ErrOff), ("strconv.ErrRange", laid_strconv_ErrRange), ("strconv.ErrSyntax", laid_strconv_ErrSyntax)] }
def TapeCutsSaid : Prop := tapeCutsRow.holds Tryd.pinned (OpenSpec.ofChange tapeCutsSpec)

/-- ITS FALSE NEIGHBOUR: 'it returns false'. Refute it at one input. -/
def tapeCutsWrong : ChangeSpec := { name := "tapeCuts", fn := fun _ => fun
  | [d1, d2] => { results := [.lit (.bool false)], args := [d1, d2] }
  | _ => none }
def TapeCutsWrongFalsely : Prop := tapeCutsRow.holds Tryd.pinned (OpenSpec.ofChange tapeCutsWrong)

/-- 'cornbinlaw1.PrintParts': WHATEVER THE INPUT: true; the input reads as it did. -/
def printPartsSpec : ChangeSpec := { name := "printParts", fn := fun _ => fun
  | [d1, d2, d3, d4, d5] => { results := [.lit (.bool true)], args := [d1, d2, d3, d4, d5] }
  | _ => none }
def printPartsRow : OpenClaim := { program := "ytpacalklcdlhoaadoor", sum := "aad8b76126648b3ba5d4157f30ab1d4a05490cadebcd20ec1c56394cdd242e68", func := "cornbin/cornbinlaw1.PrintParts", spec := "printParts", inPlace := ["internal/bytealg.IndexByteString", "internal/bytealg.IndexString", "internal/abi.NoEscape", "internal/bytealg.MakeNoZero"], named := ["cornbin/api.ErrText", "internal/bytealg.MaxLen", "strconv.ErrSyntax", "strconv.ErrRange", "internal/strconv.uint64pow10", "math/bits.deBruijn32tab", "math/bits.deBruijn64tab"], apart := false, laid := [("math/bits.deBruijn32tab", laid_math_bits_deBruijn32tab), ("math/bits.deBruijn64tab", laid_math_bits_deBruijn64tab), ("internal/strconv.uint64pow10", laid_internal_strconv_uint64pow10), ("cornbin/api.ErrText", laid_cornbin_api_ErrText), ("strconv.ErrRange", laid_strconv_ErrRange), ("strconv.ErrSyntax", laid_strconv_ErrSyntax)] }
def PrintPartsSaid : Prop := printPartsRow.holds Tryd.pinned (OpenSpec.ofChange printPartsSpec)

/-- ITS FALSE NEIGHBOUR: 'it returns false'. Refute it at one input. -/
def printPartsWrong : ChangeSpec := { name := "printParts", fn := fun _ => fun
  | [d1, d2, d3, d4, d5] => { results := [.lit (.bool false)], args := [d1, d2, d3, d4, d5] }
  | _ => none }
def PrintPartsWrongFalsely : Prop := printPartsRow.holds Tryd.pinned (OpenSpec.ofChange printPartsWrong)

/-- 'cornbinlaw3.TapeActs': WHATEVER THE INPUT: true; the input reads as it did. -/
def tapeActsSpec : ChangeSpec := { name := "tapeActs", fn := fun _ => fun
  | [d1, d2] => { results := [.lit (.bool true)], args := [d1, d2] }
  | _ => none }
def tapeActsRow : OpenClaim := { program := "ytpacalklcdlhoaadoor", sum := "aad8b76126648b3ba5d4157f30ab1d4a05490cadebcd20ec1c56394cdd242e68", func := "cornbin/cornbinlaw3.TapeActs", spec := "tapeActs", inPlace := ["internal/bytealg.IndexByteString", "internal/bytealg.IndexString", "internal/reflectlite.ValueOf", "(internal/reflectlite.Value).Type", "(internal/reflectlite.Value).IsNil", "internal/reflectlite.TypeOf", "(internal/reflectlite.Value).Elem", "(internal/reflectlite.Value).Set"], unfollowed := true, recurses := true, named := ["cornbin/api.ErrBound", "cornbin/api.ErrShape", "cornbin/api.ErrFull", "internal/strconv.uint64pow10", "math/bits.deBruijn32tab", "math/bits.deBruijn64tab", "cornbin/api.ErrOff", "internal/bytealg.MaxLen", "strconv.ErrSyntax", "strconv.ErrRange", "cornbin/api.ErrText", "cornbin/api.ErrName", "cornbin/api.ErrNone", "cornbin/api.ErrExist", "cornbin/api.ErrOrder", "cornbin/api.ErrSum", "cornbin/api.ErrClash", "cornbin/api.ErrUsed", "errors.errorType"], apart := false, laid := [("math/bits.deBruijn32tab", laid_math_bits_deBruijn32tab), ("math/bits.deBruijn64tab", laid_math_bits_deBruijn64tab), ("internal/strconv.uint64pow10", laid_internal_strconv_uint64pow10), ("errors.errorType", laid_errors_errorType), ("cornbin/api.ErrText", laid_cornbin_api_ErrText), ("cornbin/api.ErrBound", laid_cornbin_api_ErrBound), ("cornbin/api.ErrShape", laid_cornbin_api_ErrShape), ("cornbin/api.ErrName", laid_cornbin_api_ErrName), ("cornbin/api.ErrNone", laid_cornbin_api_ErrNone), ("cornbin/api.ErrExist", laid_cornbin_api_ErrExist), ("cornbin/api.ErrFull", laid_cornbin_api_ErrFull), ("cornbin/api.ErrOrder", laid_cornbin_api_ErrOrder), ("cornbin/api.ErrSum", laid_cornbin_api_ErrSum), ("cornbin/api.ErrClash", laid_cornbin_api_ErrClash), ("cornbin/api.ErrUsed", laid_cornbin_api_ErrUsed), ("cornbin/api.ErrOff", laid_cornbin_api_ErrOff), ("strconv.ErrRange", laid_strconv_ErrRange), ("strconv.ErrSyntax", laid_strconv_ErrSyntax)] }
def TapeActsSaid : Prop := tapeActsRow.holds Tryd.pinned (OpenSpec.ofChange tapeActsSpec)

/-- ITS FALSE NEIGHBOUR: 'it returns false'. Refute it at one input. -/
def tapeActsWrong : ChangeSpec := { name := "tapeActs", fn := fun _ => fun
  | [d1, d2] => { results := [.lit (.bool false)], args := [d1, d2] }
  | _ => none }
def TapeActsWrongFalsely : Prop := tapeActsRow.holds Tryd.pinned (OpenSpec.ofChange tapeActsWrong)

/-- 'cornbinlaw3.OnceOnce': WHATEVER THE INPUT: true; the input reads as it did. -/
def onceOnceSpec : ChangeSpec := { name := "onceOnce", fn := fun _ => fun
  | [d] => { results := [.lit (.bool true)], args := [d] }
  | _ => none }
def onceOnceRow : OpenClaim := { program := "ytpacalklcdlhoaadoor", sum := "aad8b76126648b3ba5d4157f30ab1d4a05490cadebcd20ec1c56394cdd242e68", func := "cornbin/cornbinlaw3.OnceOnce", spec := "onceOnce", inPlace := ["internal/bytealg.IndexByteString", "internal/bytealg.IndexString", "internal/reflectlite.ValueOf", "(internal/reflectlite.Value).Type", "(internal/reflectlite.Value).IsNil", "internal/reflectlite.TypeOf", "(internal/reflectlite.Value).Elem", "(internal/reflectlite.Value).Set"], unfollowed := true, recurses := true, named := ["cornbin/api.ErrName", "cornbin/api.ErrOrder", "cornbin/api.ErrFull", "unicode/utf8.first", "unicode/utf8.acceptRanges", "cornbin/api.ErrText", "cornbin/api.ErrBound", "cornbin/api.ErrShape", "cornbin/api.ErrNone", "cornbin/api.ErrExist", "cornbin/api.ErrSum", "cornbin/api.ErrClash", "cornbin/api.ErrUsed", "cornbin/api.ErrOff", "errors.errorType", "internal/bytealg.MaxLen"], apart := false, laid := [("unicode/utf8.acceptRanges", laid_unicode_utf8_acceptRanges), ("errors.errorType", laid_errors_errorType), ("cornbin/api.ErrText", laid_cornbin_api_ErrText), ("cornbin/api.ErrBound", laid_cornbin_api_ErrBound), ("cornbin/api.ErrShape", laid_cornbin_api_ErrShape), ("cornbin/api.ErrName", laid_cornbin_api_ErrName), ("cornbin/api.ErrNone", laid_cornbin_api_ErrNone), ("cornbin/api.ErrExist", laid_cornbin_api_ErrExist), ("cornbin/api.ErrFull", laid_cornbin_api_ErrFull), ("cornbin/api.ErrOrder", laid_cornbin_api_ErrOrder), ("cornbin/api.ErrSum", laid_cornbin_api_ErrSum), ("cornbin/api.ErrClash", laid_cornbin_api_ErrClash), ("cornbin/api.ErrUsed", laid_cornbin_api_ErrUsed), ("cornbin/api.ErrOff", laid_cornbin_api_ErrOff), ("unicode/utf8.first", laid_unicode_utf8_first)] }
def OnceOnceSaid : Prop := onceOnceRow.holds Tryd.pinned (OpenSpec.ofChange onceOnceSpec)

/-- ITS FALSE NEIGHBOUR: 'it returns false'. Refute it at one input. -/
def onceOnceWrong : ChangeSpec := { name := "onceOnce", fn := fun _ => fun
  | [d] => { results := [.lit (.bool false)], args := [d] }
  | _ => none }
def OnceOnceWrongFalsely : Prop := onceOnceRow.holds Tryd.pinned (OpenSpec.ofChange onceOnceWrong)

/-- 'cornbinlaw3.OnceActs': WHATEVER THE INPUT: true; the input reads as it did. -/
def onceActsSpec : ChangeSpec := { name := "onceActs", fn := fun _ => fun
  | [d] => { results := [.lit (.bool true)], args := [d] }
  | _ => none }
def onceActsRow : OpenClaim := { program := "ytpacalklcdlhoaadoor", sum := "aad8b76126648b3ba5d4157f30ab1d4a05490cadebcd20ec1c56394cdd242e68", func := "cornbin/cornbinlaw3.OnceActs", spec := "onceActs", inPlace := ["internal/bytealg.IndexByteString", "internal/bytealg.IndexString", "internal/reflectlite.ValueOf", "(internal/reflectlite.Value).Type", "(internal/reflectlite.Value).IsNil", "internal/reflectlite.TypeOf", "(internal/reflectlite.Value).Elem", "(internal/reflectlite.Value).Set", "maps.clone"], unfollowed := true, recurses := true, named := ["cornbin/api.ErrName", "cornbin/api.ErrOrder", "cornbin/api.ErrFull", "unicode/utf8.first", "unicode/utf8.acceptRanges", "cornbin/api.ErrText", "cornbin/api.ErrBound", "cornbin/api.ErrShape", "cornbin/api.ErrNone", "cornbin/api.ErrExist", "cornbin/api.ErrSum", "cornbin/api.ErrClash", "cornbin/api.ErrUsed", "cornbin/api.ErrOff", "errors.errorType", "internal/bytealg.MaxLen"], apart := false, laid := [("unicode/utf8.acceptRanges", laid_unicode_utf8_acceptRanges), ("errors.errorType", laid_errors_errorType), ("cornbin/api.ErrText", laid_cornbin_api_ErrText), ("cornbin/api.ErrBound", laid_cornbin_api_ErrBound), ("cornbin/api.ErrShape", laid_cornbin_api_ErrShape), ("cornbin/api.ErrName", laid_cornbin_api_ErrName), ("cornbin/api.ErrNone", laid_cornbin_api_ErrNone), ("cornbin/api.ErrExist", laid_cornbin_api_ErrExist), ("cornbin/api.ErrFull", laid_cornbin_api_ErrFull), ("cornbin/api.ErrOrder", laid_cornbin_api_ErrOrder), ("cornbin/api.ErrSum", laid_cornbin_api_ErrSum), ("cornbin/api.ErrClash", laid_cornbin_api_ErrClash), ("cornbin/api.ErrUsed", laid_cornbin_api_ErrUsed), ("cornbin/api.ErrOff", laid_cornbin_api_ErrOff), ("unicode/utf8.first", laid_unicode_utf8_first)] }
def OnceActsSaid : Prop := onceActsRow.holds Tryd.pinned (OpenSpec.ofChange onceActsSpec)

/-- ITS FALSE NEIGHBOUR: 'it returns false'. Refute it at one input. -/
def onceActsWrong : ChangeSpec := { name := "onceActs", fn := fun _ => fun
  | [d] => { results := [.lit (.bool false)], args := [d] }
  | _ => none }
def OnceActsWrongFalsely : Prop := onceActsRow.holds Tryd.pinned (OpenSpec.ofChange onceActsWrong)

/- THE SECOND FORM. 'bulk': how many values and letters a reading holds, each counted each time it is reached (what is shared counts as often as it is met; a slice's spare places count too). A statement '..UptoSaid' is the law's where the arguments, and the package variables that the reading takes, are together of bulk at most 1048576: NARROWER than '..Said'. Prove '..Said' where nothing that the law and all that it calls make is longer than what came in: it says more and counts as full. Else prove '..UptoSaid'. A law counts once. -/
mutual
def uptoBulk {H : Type} : DataW H → Nat
  | .lit (.string bytes) => bytes.length + 1
  | .lit _ => 1
  | .nil => 1
  | .ptr d => uptoBulk d + 1
  | .slice elems spare => uptoBulkAll elems + uptoBulkAll spare + 1
  | .agg parts => uptoBulkAll parts + 1
  | .iface _ d => uptoBulk d + 1
  | .map entries => uptoBulkEntries entries + 1
  | .held _ => 1
def uptoBulkAll {H : Type} : List (DataW H) → Nat
  | [] => 0
  | d :: r => uptoBulk d + uptoBulkAll r
def uptoBulkEntries {H : Type} : List (Lit × DataW H) → Nat
  | [] => 0
  | x :: r => uptoBulkEntry x + uptoBulkEntries r
def uptoBulkEntry {H : Type} : Lit × DataW H → Nat
  | (.string bytes, d) => bytes.length + uptoBulk d + 1
  | (_, d) => uptoBulk d + 1
 end
def uptoSmall : (H : Type) → List (DataW H) → Bool := fun _ ds => decide (uptoBulkAll ds ≤ 1048576)
def OpenSpec.upto (s : _root_.Go.ChangeSpec) : _root_.Go.OpenSpec := { _root_.Go.OpenSpec.ofChange s with cond := some uptoSmall }

/-- 'cornbinlaw2.OwnerMoves', WHERE WHAT IT READS IS OF BULK AT MOST 1048576: true; the input reads as it did. -/
def ownerMovesUptoRow : OpenClaim := { program := "ytpacalklcdlhoaadoor", sum := "aad8b76126648b3ba5d4157f30ab1d4a05490cadebcd20ec1c56394cdd242e68", func := "cornbin/cornbinlaw2.OwnerMoves", spec := "ownerMoves", inPlace := ["internal/abi.NoEscape", "internal/bytealg.MakeNoZero", "slices.overlaps[int]"], unfollowed := true, recurses := true, named := ["cornbin/api.ErrShape", "cornbin/api.ErrNone", "cornbin/api.ErrBound", "cornbin/api.ErrOrder", "internal/strconv.uint64pow10", "math/bits.deBruijn32tab", "math/bits.deBruijn64tab", "cornbin/api.ErrExist"], apart := false, laid := [("math/bits.deBruijn32tab", laid_math_bits_deBruijn32tab), ("math/bits.deBruijn64tab", laid_math_bits_deBruijn64tab), ("internal/strconv.uint64pow10", laid_internal_strconv_uint64pow10), ("cornbin/api.ErrBound", laid_cornbin_api_ErrBound), ("cornbin/api.ErrShape", laid_cornbin_api_ErrShape), ("cornbin/api.ErrNone", laid_cornbin_api_ErrNone), ("cornbin/api.ErrExist", laid_cornbin_api_ErrExist), ("cornbin/api.ErrOrder", laid_cornbin_api_ErrOrder)], narrowed := true }
def OwnerMovesUptoSaid : Prop := ownerMovesUptoRow.holds Tryd.pinned (OpenSpec.upto ownerMovesSpec)

/-- 'cornbinlaw3.TapeCuts', WHERE WHAT IT READS IS OF BULK AT MOST 1048576: true; the input reads as it did. -/
def tapeCutsUptoRow : OpenClaim := { program := "ytpacalklcdlhoaadoor", sum := "aad8b76126648b3ba5d4157f30ab1d4a05490cadebcd20ec1c56394cdd242e68", func := "cornbin/cornbinlaw3.TapeCuts", spec := "tapeCuts", inPlace := ["internal/bytealg.IndexByteString", "internal/bytealg.IndexString"], named := ["cornbin/api.ErrBound", "cornbin/api.ErrShape", "cornbin/api.ErrFull", "internal/strconv.uint64pow10", "math/bits.deBruijn32tab", "math/bits.deBruijn64tab", "cornbin/api.ErrOff", "internal/bytealg.MaxLen", "strconv.ErrSyntax", "strconv.ErrRange"], apart := false, laid := [("math/bits.deBruijn32tab", laid_math_bits_deBruijn32tab), ("math/bits.deBruijn64tab", laid_math_bits_deBruijn64tab), ("internal/strconv.uint64pow10", laid_internal_strconv_uint64pow10), ("cornbin/api.ErrBound", laid_cornbin_api_ErrBound), ("cornbin/api.ErrShape", laid_cornbin_api_ErrShape), ("cornbin/api.ErrFull", laid_cornbin_api_ErrFull), ("cornbin/api.ErrOff", laid_cornbin_api_ErrOff), ("strconv.ErrRange", laid_strconv_ErrRange), ("strconv.ErrSyntax", laid_strconv_ErrSyntax)], narrowed := true }
def TapeCutsUptoSaid : Prop := tapeCutsUptoRow.holds Tryd.pinned (OpenSpec.upto tapeCutsSpec)

/-- 'cornbinlaw1.PrintParts', WHERE WHAT IT READS IS OF BULK AT MOST 1048576: true; the input reads as it did. -/
def printPartsUptoRow : OpenClaim := { program := "ytpacalklcdlhoaadoor", sum := "aad8b76126648b3ba5d4157f30ab1d4a05490cadebcd20ec1c56394cdd242e68", func := "cornbin/cornbinlaw1.PrintParts", spec := "printParts", inPlace := ["internal/bytealg.IndexByteString", "internal/bytealg.IndexString", "internal/abi.NoEscape", "internal/bytealg.MakeNoZero"], named := ["cornbin/api.ErrText", "internal/bytealg.MaxLen", "strconv.ErrSyntax", "strconv.ErrRange", "internal/strconv.uint64pow10", "math/bits.deBruijn32tab", "math/bits.deBruijn64tab"], apart := false, laid := [("math/bits.deBruijn32tab", laid_math_bits_deBruijn32tab), ("math/bits.deBruijn64tab", laid_math_bits_deBruijn64tab), ("internal/strconv.uint64pow10", laid_internal_strconv_uint64pow10), ("cornbin/api.ErrText", laid_cornbin_api_ErrText), ("strconv.ErrRange", laid_strconv_ErrRange), ("strconv.ErrSyntax", laid_strconv_ErrSyntax)], narrowed := true }
def PrintPartsUptoSaid : Prop := printPartsUptoRow.holds Tryd.pinned (OpenSpec.upto printPartsSpec)

/-- 'cornbinlaw3.TapeActs', WHERE WHAT IT READS IS OF BULK AT MOST 1048576: true; the input reads as it did. -/
def tapeActsUptoRow : OpenClaim := { program := "ytpacalklcdlhoaadoor", sum := "aad8b76126648b3ba5d4157f30ab1d4a05490cadebcd20ec1c56394cdd242e68", func := "cornbin/cornbinlaw3.TapeActs", spec := "tapeActs", inPlace := ["internal/bytealg.IndexByteString", "internal/bytealg.IndexString", "internal/reflectlite.ValueOf", "(internal/reflectlite.Value).Type", "(internal/reflectlite.Value).IsNil", "internal/reflectlite.TypeOf", "(internal/reflectlite.Value).Elem", "(internal/reflectlite.Value).Set"], unfollowed := true, recurses := true, named := ["cornbin/api.ErrBound", "cornbin/api.ErrShape", "cornbin/api.ErrFull", "internal/strconv.uint64pow10", "math/bits.deBruijn32tab", "math/bits.deBruijn64tab", "cornbin/api.ErrOff", "internal/bytealg.MaxLen", "strconv.ErrSyntax", "strconv.ErrRange", "cornbin/api.ErrText", "cornbin/api.ErrName", "cornbin/api.ErrNone", "cornbin/api.ErrExist", "cornbin/api.ErrOrder", "cornbin/api.ErrSum", "cornbin/api.ErrClash", "cornbin/api.ErrUsed", "errors.errorType"], apart := false, laid := [("math/bits.deBruijn32tab", laid_math_bits_deBruijn32tab), ("math/bits.deBruijn64tab", laid_math_bits_deBruijn64tab), ("internal/strconv.uint64pow10", laid_internal_strconv_uint64pow10), ("errors.errorType", laid_errors_errorType), ("cornbin/api.ErrText", laid_cornbin_api_ErrText), ("cornbin/api.ErrBound", laid_cornbin_api_ErrBound), ("cornbin/api.ErrShape", laid_cornbin_api_ErrShape), ("cornbin/api.ErrName", laid_cornbin_api_ErrName), ("cornbin/api.ErrNone", laid_cornbin_api_ErrNone), ("cornbin/api.ErrExist", laid_cornbin_api_ErrExist), ("cornbin/api.ErrFull", laid_cornbin_api_ErrFull), ("cornbin/api.ErrOrder", laid_cornbin_api_ErrOrder), ("cornbin/api.ErrSum", laid_cornbin_api_ErrSum), ("cornbin/api.ErrClash", laid_cornbin_api_ErrClash), ("cornbin/api.ErrUsed", laid_cornbin_api_ErrUsed), ("cornbin/api.ErrOff", laid_cornbin_api_ErrOff), ("strconv.ErrRange", laid_strconv_ErrRange), ("strconv.ErrSyntax", laid_strconv_ErrSyntax)], narrowed := true }
def TapeActsUptoSaid : Prop := tapeActsUptoRow.holds Tryd.pinned (OpenSpec.upto tapeActsSpec)

/-- 'cornbinlaw3.OnceOnce', WHERE WHAT IT READS IS OF BULK AT MOST 1048576: true; the input reads as it did. -/
def onceOnceUptoRow : OpenClaim := { program := "ytpacalklcdlhoaadoor", sum := "aad8b76126648b3ba5d4157f30ab1d4a05490cadebcd20ec1c56394cdd242e68", func := "cornbin/cornbinlaw3.OnceOnce", spec := "onceOnce", inPlace := ["internal/bytealg.IndexByteString", "internal/bytealg.IndexString", "internal/reflectlite.ValueOf", "(internal/reflectlite.Value).Type", "(internal/reflectlite.Value).IsNil", "internal/reflectlite.TypeOf", "(internal/reflectlite.Value).Elem", "(internal/reflectlite.Value).Set"], unfollowed := true, recurses := true, named := ["cornbin/api.ErrName", "cornbin/api.ErrOrder", "cornbin/api.ErrFull", "unicode/utf8.first", "unicode/utf8.acceptRanges", "cornbin/api.ErrText", "cornbin/api.ErrBound", "cornbin/api.ErrShape", "cornbin/api.ErrNone", "cornbin/api.ErrExist", "cornbin/api.ErrSum", "cornbin/api.ErrClash", "cornbin/api.ErrUsed", "cornbin/api.ErrOff", "errors.errorType", "internal/bytealg.MaxLen"], apart := false, laid := [("unicode/utf8.acceptRanges", laid_unicode_utf8_acceptRanges), ("errors.errorType", laid_errors_errorType), ("cornbin/api.ErrText", laid_cornbin_api_ErrText), ("cornbin/api.ErrBound", laid_cornbin_api_ErrBound), ("cornbin/api.ErrShape", laid_cornbin_api_ErrShape), ("cornbin/api.ErrName", laid_cornbin_api_ErrName), ("cornbin/api.ErrNone", laid_cornbin_api_ErrNone), ("cornbin/api.ErrExist", laid_cornbin_api_ErrExist), ("cornbin/api.ErrFull", laid_cornbin_api_ErrFull), ("cornbin/api.ErrOrder", laid_cornbin_api_ErrOrder), ("cornbin/api.ErrSum", laid_cornbin_api_ErrSum), ("cornbin/api.ErrClash", laid_cornbin_api_ErrClash), ("cornbin/api.ErrUsed", laid_cornbin_api_ErrUsed), ("cornbin/api.ErrOff", laid_cornbin_api_ErrOff), ("unicode/utf8.first", laid_unicode_utf8_first)], narrowed := true }
def OnceOnceUptoSaid : Prop := onceOnceUptoRow.holds Tryd.pinned (OpenSpec.upto onceOnceSpec)

/-- 'cornbinlaw3.OnceActs', WHERE WHAT IT READS IS OF BULK AT MOST 1048576: true; the input reads as it did. -/
def onceActsUptoRow : OpenClaim := { program := "ytpacalklcdlhoaadoor", sum := "aad8b76126648b3ba5d4157f30ab1d4a05490cadebcd20ec1c56394cdd242e68", func := "cornbin/cornbinlaw3.OnceActs", spec := "onceActs", inPlace := ["internal/bytealg.IndexByteString", "internal/bytealg.IndexString", "internal/reflectlite.ValueOf", "(internal/reflectlite.Value).Type", "(internal/reflectlite.Value).IsNil", "internal/reflectlite.TypeOf", "(internal/reflectlite.Value).Elem", "(internal/reflectlite.Value).Set", "maps.clone"], unfollowed := true, recurses := true, named := ["cornbin/api.ErrName", "cornbin/api.ErrOrder", "cornbin/api.ErrFull", "unicode/utf8.first", "unicode/utf8.acceptRanges", "cornbin/api.ErrText", "cornbin/api.ErrBound", "cornbin/api.ErrShape", "cornbin/api.ErrNone", "cornbin/api.ErrExist", "cornbin/api.ErrSum", "cornbin/api.ErrClash", "cornbin/api.ErrUsed", "cornbin/api.ErrOff", "errors.errorType", "internal/bytealg.MaxLen"], apart := false, laid := [("unicode/utf8.acceptRanges", laid_unicode_utf8_acceptRanges), ("errors.errorType", laid_errors_errorType), ("cornbin/api.ErrText", laid_cornbin_api_ErrText), ("cornbin/api.ErrBound", laid_cornbin_api_ErrBound), ("cornbin/api.ErrShape", laid_cornbin_api_ErrShape), ("cornbin/api.ErrName", laid_cornbin_api_ErrName), ("cornbin/api.ErrNone", laid_cornbin_api_ErrNone), ("cornbin/api.ErrExist", laid_cornbin_api_ErrExist), ("cornbin/api.ErrFull", laid_cornbin_api_ErrFull), ("cornbin/api.ErrOrder", laid_cornbin_api_ErrOrder), ("cornbin/api.ErrSum", laid_cornbin_api_ErrSum), ("cornbin/api.ErrClash", laid_cornbin_api_ErrClash), ("cornbin/api.ErrUsed", laid_cornbin_api_ErrUsed), ("cornbin/api.ErrOff", laid_cornbin_api_ErrOff), ("unicode/utf8.first", laid_unicode_utf8_first)], narrowed := true }
def OnceActsUptoSaid : Prop := onceActsUptoRow.holds Tryd.pinned (OpenSpec.upto onceActsSpec)

end Rows
end Go.Proofs.YtpacalklcdlhoaaDoor

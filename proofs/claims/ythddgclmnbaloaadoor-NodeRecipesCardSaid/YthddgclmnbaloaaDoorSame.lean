/- Walks of SameInts, SameTexts (are two slices the same?), InInts. Condition: lengths below 2^62. -/
import Derived.Test.YthddgclmnbaloaaDoorPlainA
import Derived.Test.YthddgclmnbaloaaDoorRead
import Derived.Test.YthddgclmnbaloaaDoorChecked
import Derived.WalkKit
import Derived.Handy
import Derived.Lib.Hide
import Derived.Deep.QuietTactic
import Derived.BigQuiet
namespace Go.Proofs.YthddgclmnbaloaaDoor
open Go.RowKit Go.Lib

abbrev VZ (n : Int) : Value := .int .i64 n
theorem take_snoc {α : Type} {xs ys : List α} {k : Nat} (h : xs.take k = ys.take k) (hx : k < xs.length) (hy : k < ys.length) (e : xs[k] = ys[k]) : xs.take (k + 1) = ys.take (k + 1) := by
  rw [List.take_succ_eq_append_getElem hx, List.take_succ_eq_append_getElem hy, h, e]

abbrev VT (b : Bytes) : Value := .string (bs b)
end Go.Proofs.YthddgclmnbaloaaDoor

/- strconv.Atoi by two contracts: a number, or an error. Condition: strconv's two error variables hold errors (Perrs). -/
import Derived.Test.YtbokckjlgjnnjaaDoorShelf
import Derived.Test.YtbokckjlgjnnjaaDoorPlainA
import Derived.Lib.AtoiErrMem
import Derived.Lib.AtoiTie
import Derived.Below
namespace Go.Proofs.YtbokckjlgjnnjaaDoor
open Go.RowKit Go.Lib

/-- the number that a text is, if Atoi finds one -/
def atoiO (l : List UInt8) : Option Int := match atoiAll l with
  | .ok v => some v
  | _ => none
theorem atoiO_digits (l : List UInt8) (n : Nat) (h : atoiAll l = .ok (n : Int)) : atoiO l = some (n : Int) := by unfold atoiO; rw [h]
theorem atoiO_ok {l : List UInt8} {v : Int} (h : atoiO l = some v) : atoiAll l = .ok v := by
  unfold atoiO at h
  cases hA : atoiAll l with
  | ok x => rw [hA] at h; injection h with h; rw [h]
  | _ => rw [hA] at h; cases h
end Go.Proofs.YtbokckjlgjnnjaaDoor

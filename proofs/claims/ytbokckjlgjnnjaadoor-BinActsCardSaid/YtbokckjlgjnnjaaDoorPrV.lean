/- Walks of strconv.ParseUint (base 16), print.Unhex, strconv.Atoi, print.Number, print.Read. Condition: strconv's two error variables hold errors (Perrs), the tables and ErrText lie as named. -/
import Derived.Test.YtbokckjlgjnnjaaDoorPrU
import Derived.Test.YtbokckjlgjnnjaaDoorPrT
import Derived.Test.YtbokckjlgjnnjaaDoorPlainC
import Derived.Test.YtbokckjlgjnnjaaDoorEv
import Derived.Test.YtbokckjlgjnnjaaDoorAtoi
namespace Go.Proofs.YtbokckjlgjnnjaaDoor
open Go.RowKit Go.Lib

theorem neq_of_beq {a b : ByteArray} {x : Bool} (h : (a.toList == b.toList) = x) : (a.toList != b.toList) = !x := by rw [bne, h]
end Go.Proofs.YtbokckjlgjnnjaaDoor

/- Plain words of a recipe of a text: what is told of it. No conditions. -/
import Derived.Test.YtpanoplcamdnkaaGreatDoorIds1
import Derived.Test.YtpanoplcamdnkaaGreatDoorName
namespace Go.Proofs.YtpanoplcamdnkaaGreatDoor
open Go.RowKit Go.Lib

theorem idsTake {ps : List Bytes} {k : Nat} (hk : k < ps.length) : idRow ((ps.take (k + 1)).map idOf) = idRow ((ps.take k).map idOf) ++ [.int .u32 ((prOf ps[k] : Nat) : Int), .int .i64 (ps[k].length : Int)] := by
  rw [List.take_succ_eq_append_getElem hk, List.map_append, idRow_append]; rfl
def ofRes (n s : Bytes) : Int × Rcp := if isName n = false then (4, rcpZero) else if 4000 < s.length then (2, rcpZero) else (0, rcpOf n s)
end Go.Proofs.YtpanoplcamdnkaaGreatDoor

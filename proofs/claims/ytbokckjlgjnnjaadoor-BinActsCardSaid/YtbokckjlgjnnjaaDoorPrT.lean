/- Walks of print.Hex, strconv.Itoa, print.Text, print.ID. Condition: the library's tables lie as the text lays them (Tabs). -/
import Derived.Test.YtbokckjlgjnnjaaDoorPrF
import Derived.Test.YtbokckjlgjnnjaaDoorTabs
import Derived.Test.YtbokckjlgjnnjaaDoorPlainN
import Derived.Lib.ItoaLen
import Derived.Test.YtbokckjlgjnnjaaDoorHeld
namespace Go.Proofs.YtbokckjlgjnnjaaDoor
open Go.RowKit Go.Lib

theorem cat_bs (a b : Bytes) : bs a ++ bs b = bs (a ++ b) := by
  apply ba_ext
  rw [bs_toList, show (bs a ++ bs b).data.toList = (bs a).data.toList ++ (bs b).data.toList by simp, bs_toList, bs_toList]
def idText (p : Nat) (l : Int) : Bytes := if l < 0 then [] else hex8 p ++ 45 :: itoa l
theorem ID_any (s : ByteArray) (w : World) (hs : s.size ≤ maxLen) :
    Calls Tryd.prog 37 #[.string s] w fun e w' => e = .returned (.agg #[.int .u32 (prOf s.data.toList : Nat), .int .i64 (s.size : Int)]) ∧ Below w.heap.size w w' := by
  go_enter Tryd.func37, Tryd.ntmps37
  go_wp2_with fail
  refine (POf_any s _ hs).mono ?_
  rintro e w1 ⟨rfl, rfl⟩
  have hb := (Below.refl w.heap.size w).alloc (Nat.le_refl _) (.cells #[.int .u32 0, .int .i64 0] 44)
  have hb1 := fun x => ((Below.refl w.heap.size w).alloc (Nat.le_refl _) (.cells #[.int .u32 ((prOf s.data.toList : Nat) : Int), x] 44))
  go_wp2
  go_returns
  exact ⟨rfl, hb1 _⟩
end Go.Proofs.YtbokckjlgjnnjaaDoor

/- The library's tables that the walks read, kept under whatever leaves old memory alone. No conditions. -/
import Derived.Test.YtbokckjlgjnnjaaDoorShelf
import Derived.Lib.SmallJoins
import Derived.Lib.AppendIntMem
import Derived.Below
namespace Go.Proofs.YtbokckjlgjnnjaaDoor
open Go.RowKit Go.Lib Go.Sort

/-- the search's variable holds some number -/
def MaxL (w : World) : Prop := ∃ m, w.cell? ⟨15, 0, none⟩ = some (.int .i64 m)
theorem MaxL.below {w w' : World} (h : MaxL w) (hb : Below w.heap.size w w') : MaxL w' := by
  obtain ⟨m, hm⟩ := h
  exact ⟨m, (hb.cell (p := ⟨15, 0, none⟩) (World.block_lt_of_cell? w _ hm)).trans hm⟩
end Go.Proofs.YtbokckjlgjnnjaaDoor

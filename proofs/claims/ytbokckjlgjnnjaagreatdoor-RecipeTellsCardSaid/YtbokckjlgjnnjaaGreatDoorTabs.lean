/- The library's tables that the walks read, kept under whatever leaves old memory alone. No conditions. -/
import Derived.Test.YtbokckjlgjnnjaaGreatDoorShelf
import Derived.Lib.SmallJoins
import Derived.Lib.AppendIntMem
import Derived.Below
namespace Go.Proofs.YtbokckjlgjnnjaaGreatDoor
open Go.RowKit Go.Lib Go.Sort

structure Tabs (w : World) : Prop where
  tab : TabIs Tryz.prog w "internal/strconv.uint64pow10" .u64 pow10Tab
  db : w.cell? ⟨20, 15, none⟩ = some (.int .u8 4)
theorem Tabs.below {w w' : World} (h : Tabs w) (hb : Below w.heap.size w w') : Tabs w' where
  tab := Go.Joins.tab_stays (g := 13) (by kernel_rfl) h.tab hb (Nat.le_refl _)
  db := (hb.cell (p := ⟨20, 15, none⟩) (World.block_lt_of_cell? w _ h.db)).trans h.db
/-- the search's variable holds some number -/
def MaxL (w : World) : Prop := ∃ m, w.cell? ⟨14, 0, none⟩ = some (.int .i64 m)
theorem MaxL.below {w w' : World} (h : MaxL w) (hb : Below w.heap.size w w') : MaxL w' := by
  obtain ⟨m, hm⟩ := h
  exact ⟨m, (hb.cell (p := ⟨14, 0, none⟩) (World.block_lt_of_cell? w _ hm)).trans hm⟩
end Go.Proofs.YtbokckjlgjnnjaaGreatDoor

/- The twelve sentinels' variables and the type handle's, kept under whatever leaves old memory alone. No conditions. -/
import Derived.Test.YtbokckjlgjnnjaaDoorChecked
import Derived.WalkKit
import Derived.Below
namespace Go.Proofs.YtbokckjlgjnnjaaDoor
open Go.RowKit

/-- The variables' numbers, in the order of plain.Code's list. -/
def sv (k : Nat) : Nat := [7, 4, 8, 3, 2, 0, 1, 9, 10, 5, 6, 11].getD k 0
/-- Sentinel k's value. -/
def sval (a : Nat → Addr) (k : Nat) : Value := .iface 211 (.pointer (some (a k)))
structure Sents (a : Nat → Addr) (w : World) : Prop where
  cell : ∀ k, k < 12 → w.cell? ⟨sv k, 0, none⟩ = some (sval a k)
  row : ∀ k, k < 12 → ∃ c t, w.heap[(a k).block]? = some (.cells c t (0, 0))
  inj : ∀ i j, i < 12 → j < 12 → i ≠ j → a i ≠ a j
  ety : w.cell? ⟨12, 0, none⟩ = some (.iface 165 (.agg #[.pointer (some ⟨16, 30, none⟩)]))
theorem lt_of_heap {w : World} {k : Nat} {o : Obj} (h : w.heap[k]? = some o) : k < w.heap.size := by
  rcases Nat.lt_or_ge k w.heap.size with h' | h'
  · exact h'
  · simp [Array.getElem?_eq_none h'] at h
theorem Sents.below {a : Nat → Addr} {w w' : World} (h : Sents a w) (hb : Below w.heap.size w w') : Sents a w' where
  cell k hk := (hb.cell (p := ⟨sv k, 0, none⟩) (World.block_lt_of_cell? w _ (h.cell k hk))).trans (h.cell k hk)
  row k hk := by
    obtain ⟨c, t, hr⟩ := h.row k hk
    exact ⟨c, t, (hb.block _ (lt_of_heap hr)).trans hr⟩
  inj := h.inj
  ety := (hb.cell (p := ⟨12, 0, none⟩) (World.block_lt_of_cell? w _ h.ety)).trans h.ety
end Go.Proofs.YtbokckjlgjnnjaaDoor

/- An argument that is a slice of texts is opened. No conditions. -/
import Derived.Test.YtbokckjlgjnnjaaGreatDoorOpenS
import Derived.Test.YtbokckjlgjnnjaaGreatDoorSame
import Derived.Deep.Strs
import Derived.Test.YtbokckjlgjnnjaaGreatDoorChecked
namespace Go.Proofs.YtbokckjlgjnnjaaGreatDoor
open Go.RowKit Go.ChangeShapes Go.WideShapes Go.Deep

set_option maxRecDepth 100000 in
theorem open_texts {H : Type} {enc : TypeId × Value → H} {W : World} {base b0 : Nat} {spare : Nat → Bool} {held : Bool} {r : Reach} {v : Value} {d : DataW H} {ps : List MemPlace}
    (hv : Value.okWide Tryz.prog W r b0 40 v) (h : DataW.Trod enc Tryz.prog W base spare held 40 v d ps) :
    ∃ l : List Bytes, Rd W W.heap.size v (l.map VT) ∧ l.length ≤ maxLen ∧ ∀ x ∈ l, x.length ≤ maxLen := by
  obtain ⟨A, len, cap, rfl⟩ := okWide_slice Tryz.underlying40 hv
  obtain ⟨fuel, hf⟩ := h
  have hf' : DataW.trod enc Tryz.prog W base spare held fuel 40 [.slice A len cap] = some (d, ps) := by simpa [Value.cells] using hf
  rcases open_strs Tryz.underlying40 Tryz.underlying9 (by kernel_rfl) hf' with ⟨h1, _⟩ | ⟨a, len', cap', m, Sx, h1, _, hl, hm, hmm, _, hi⟩
  · simp only [List.cons.injEq, Value.slice.injEq, and_true] at h1
    obtain ⟨rfl, rfl, rfl⟩ := h1
    exact ⟨[], Rd.nil _ _, Nat.zero_le _, fun x hx => absurd hx List.not_mem_nil⟩
  · simp only [List.cons.injEq, Value.slice.injEq, and_true] at h1
    obtain ⟨rfl, rfl, rfl⟩ := h1
    have hlm : len ≤ m := by rw [hmm]; split <;> omega
    have htl : (((List.range len).map fun i => (Sx i).data.toList).map VT).length = len := by simp
    refine ⟨(List.range len).map fun i => (Sx i).data.toList, ⟨_, cap, by rw [htl], by rw [htl]; exact hl, fun hn => ?_⟩, by simp; omega, fun x hx => ?_⟩
    · have hpos : 0 < m := by
        rcases Nat.eq_zero_or_pos len with h0 | h0
        · rw [h0] at hn; simp at hn
        · omega
      have hc0 := (hi 0 hpos).1
      have hsp : a.spot = none := by simpa [Addr.add] using World.cell?_spot hc0
      obtain ⟨g, o, sp⟩ := a
      simp only at hsp
      subst hsp
      refine ⟨g, o, rfl, World.block_lt_of_cell? W _ hc0, fun k u hu => ?_⟩
      have hk : k < len := by have := (List.getElem?_eq_some_iff.1 hu).1; simp at this; omega
      have := (hi k (by omega)).1
      rw [Addr.add_lit] at this
      rw [this]
      rw [List.getElem?_map, List.getElem?_map, List.getElem?_range hk] at hu
      rw [← hu]
      rfl
    · obtain ⟨i, hi', rfl⟩ := List.mem_map.1 hx
      have h2 := (hi i (by have := List.mem_range.1 hi'; omega)).2
      rw [← size_toList]; exact h2
end Go.Proofs.YtbokckjlgjnnjaaGreatDoor

/- Walks of slices.IndexFunc, slices.ContainsFunc at pieces and at IDs, of scrub.has. No conditions. -/
import Derived.Test.YtpanoplcamdnkaaGreatDoorHlds
import Derived.Test.YtpanoplcamdnkaaGreatDoorBin1
namespace Go.Proofs.YtpanoplcamdnkaaGreatDoor
open Go.RowKit Go.Lib

/-- the place of the first that is so; else -1 -/
def ixP {α : Type} (p : α → Bool) (L : List α) : Int := if L.findIdx p < L.length then (L.findIdx p : Int) else -1
theorem ixP_at {α : Type} {p : α → Bool} {L : List α} {k : Nat} (hk : k < L.length) (h : ∀ j (hj : j < k), p (L[j]'(by omega)) = false) (hp : p L[k] = true) : ixP p L = (k : Int) := by
  have e : L.findIdx p = k := (List.findIdx_eq hk).2 ⟨hp, h⟩
  unfold ixP
  rw [e, if_pos hk]
theorem ixP_none {α : Type} {p : α → Bool} {L : List α} (h : ∀ j (hj : j < L.length), p L[j] = false) : ixP p L = -1 := by
  unfold ixP
  rw [if_neg]
  rw [List.findIdx_lt_length]
  rintro ⟨x, hx, hp⟩
  obtain ⟨j, hj, rfl⟩ := List.mem_iff_getElem.1 hx
  rw [h j hj] at hp; cases hp
theorem ixP_any {α : Type} (p : α → Bool) (L : List α) : decide (ixP p L ≥ 0) = L.any p := by
  unfold ixP
  by_cases h : L.findIdx p < L.length
  · rw [if_pos h]
    obtain ⟨x, hx, hp⟩ := List.findIdx_lt_length.1 h
    rw [List.any_eq_true.2 ⟨x, hx, hp⟩]
    exact decide_eq_true (by omega)
  · rw [if_neg h]
    have : L.any p = false := by
      rw [Bool.eq_false_iff]
      intro ha
      obtain ⟨x, hx, hp⟩ := List.any_eq_true.1 ha
      exact h (List.findIdx_lt_length.2 ⟨x, hx, hp⟩)
    rw [this]; rfl
/-! ### has -/
end Go.Proofs.YtpanoplcamdnkaaGreatDoor

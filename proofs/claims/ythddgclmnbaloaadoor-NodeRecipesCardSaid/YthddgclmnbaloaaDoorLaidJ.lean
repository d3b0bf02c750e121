/- Some sentinels out of the card's condition. No conditions. -/
import Derived.Test.YthddgclmnbaloaaDoorSentL
import Derived.Test.YthddgclmnbaloaaDoorPrt2
namespace Go.Proofs.YthddgclmnbaloaaDoor
open Go.RowKit Go.Lib

def srow (k : Nat) : SRow := S12.getD k ("", [], 0)
theorem srow_sv (k : Nat) (hk : k < 12) : (srow k).2.2 = sv k ∧ srow k ∈ S12 := by
  have h : ∀ i : Fin 12, (srow i.1).2.2 = sv i.1 := by decide
  refine ⟨h ⟨k, hk⟩, ?_⟩
  unfold srow
  have hl : k < S12.length := hk
  rw [List.getD_eq_getElem?_getD, List.getElem?_eq_getElem hl]
  exact List.getElem_mem hl
def isK (k : Nat) (x : String × DataW Unit) : Bool := (srow k).1 == x.1
theorem one_of_laid {W : World} {l : List (String × DataW Unit)} (h : laidMetH Tryd.prog l W) (k : Nat) (hk : k < 12) (h1 : l.filter (isK k) = [sentRow "*errors.errorString" (srow k)]) :
    ∃ p, W.cell? ⟨sv k, 0, none⟩ = some (.iface 211 (.pointer (some p))) := by
  have h' := h.filter (isK k)
  have hr : (srow k).1 ≠ "errors.errorType" := by
    have : ∀ i : Fin 12, (srow i.1).1 ≠ "errors.errorType" := by decide
    exact this ⟨k, hk⟩
  rw [h1] at h'
  have h3 : laidMet Tryd.prog [sentRow "*errors.errorString" (srow k)] W := by
    have hp : ∀ i : Fin 12, laidMetH Tryd.prog [sentRow "*errors.errorString" (srow i.1)] W = laidMet Tryd.prog [sentRow "*errors.errorString" (srow i.1)] W := by
      intro i
      match i with
      | ⟨0, _⟩ | ⟨1, _⟩ | ⟨2, _⟩ | ⟨3, _⟩ | ⟨4, _⟩ | ⟨5, _⟩ | ⟨6, _⟩ | ⟨7, _⟩ | ⟨8, _⟩ | ⟨9, _⟩ | ⟨10, _⟩ | ⟨11, _⟩ => exact MakeChecks.laidMetH_plain _ _ _ (by kernel_rfl)
    rw [hp ⟨k, hk⟩] at h'
    exact h'
  have hg := List.all_eq_true.1 S12_ok (srow k) (srow_sv k hk).2
  simp only [Bool.and_eq_true, beq_iff_eq] at hg
  rw [(srow_sv k hk).1] at hg
  obtain ⟨a1, s1, hv1, _⟩ := laid_sentinel h3 hg.1 hg.2 Tryd.underlying30 errRow Tryd.underlying211 Tryd.underlying229 rfl rfl Tryd.underlying9 S12_cP S12_cS
  exact ⟨a1, by simpa using World.var?_cell hg.1 hv1 0⟩
theorem someS_of_laid {W : World} {l : List (String × DataW Unit)} (h : laidMetH Tryd.prog l W) (ks : List Nat) (hk : ∀ k ∈ ks, k < 12) (h1 : ∀ k ∈ ks, l.filter (isK k) = [sentRow "*errors.errorString" (srow k)]) : ∃ a, SomeS ks a W := by
  have hx := fun k hm => one_of_laid h k (hk k hm) (h1 k hm)
  refine ⟨fun k => if hm : k ∈ ks then Classical.choose (hx k hm) else ⟨0, 0, none⟩, fun k hm => ?_⟩
  unfold sval
  simp only [hm, dif_pos]
  exact Classical.choose_spec (hx k hm)
def isN (s : String) (x : String × DataW Unit) : Bool := s == x.1
end Go.Proofs.YthddgclmnbaloaaDoor

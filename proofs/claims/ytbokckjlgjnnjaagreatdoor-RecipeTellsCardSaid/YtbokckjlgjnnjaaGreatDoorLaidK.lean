/- Some sentinels and the library's tables out of the card's condition. No conditions. -/
import Derived.Test.YtbokckjlgjnnjaaGreatDoorSentL
import Derived.Test.YtbokckjlgjnnjaaGreatDoorEv
import Derived.Test.YtbokckjlgjnnjaaGreatDoorTabs
import Derived.Lib.LaidTab
namespace Go.Proofs.YtbokckjlgjnnjaaGreatDoor
open Go.RowKit Go.Lib

def srow (k : Nat) : SRow := S12.getD k ("", [], 0)
theorem srow_sv (k : Nat) (hk : k < 12) : (srow k).2.2 = sv k ∧ srow k ∈ S12 := by
  have h : ∀ i : Fin 12, (srow i.1).2.2 = sv i.1 := by decide
  refine ⟨h ⟨k, hk⟩, ?_⟩
  unfold srow
  have hl : k < S12.length := hk
  rw [List.getD_eq_getElem?_getD, List.getElem?_eq_getElem hl]
  exact List.getElem_mem hl
def isK (k : Nat) (x : String × DataW Unit) : Bool := (srow k).1 == x.1
theorem one_of_laid {W : World} {l : List (String × DataW Unit)} (h : laidMetH Tryz.prog l W) (k : Nat) (hk : k < 12) (h1 : l.filter (isK k) = [sentRow "*errors.errorString" (srow k)]) :
    ∃ p, W.cell? ⟨sv k, 0, none⟩ = some (.iface 265 (.pointer (some p))) := by
  have h' := h.filter (isK k)
  have hr : (srow k).1 ≠ "errors.errorType" := by
    have : ∀ i : Fin 12, (srow i.1).1 ≠ "errors.errorType" := by decide
    exact this ⟨k, hk⟩
  rw [h1] at h'
  have h3 : laidMet Tryz.prog [sentRow "*errors.errorString" (srow k)] W := by
    have hp : ∀ i : Fin 12, laidMetH Tryz.prog [sentRow "*errors.errorString" (srow i.1)] W = laidMet Tryz.prog [sentRow "*errors.errorString" (srow i.1)] W := by
      intro i
      match i with
      | ⟨0, _⟩ | ⟨1, _⟩ | ⟨2, _⟩ | ⟨3, _⟩ | ⟨4, _⟩ | ⟨5, _⟩ | ⟨6, _⟩ | ⟨7, _⟩ | ⟨8, _⟩ | ⟨9, _⟩ | ⟨10, _⟩ | ⟨11, _⟩ => exact MakeChecks.laidMetH_plain _ _ _ (by kernel_rfl)
    rw [hp ⟨k, hk⟩] at h'
    exact h'
  have hg := List.all_eq_true.1 S12_ok (srow k) (srow_sv k hk).2
  simp only [Bool.and_eq_true, beq_iff_eq] at hg
  rw [(srow_sv k hk).1] at hg
  obtain ⟨a1, s1, hv1, _⟩ := laid_sentinel h3 hg.1 hg.2 Tryz.underlying28 errRow Tryz.underlying265 Tryz.underlying267 rfl rfl Tryz.underlying9 S12_cP S12_cS
  exact ⟨a1, by simpa using World.var?_cell hg.1 hv1 0⟩
theorem someS_of_laid {W : World} {l : List (String × DataW Unit)} (h : laidMetH Tryz.prog l W) (ks : List Nat) (hk : ∀ k ∈ ks, k < 12) (h1 : ∀ k ∈ ks, l.filter (isK k) = [sentRow "*errors.errorString" (srow k)]) : ∃ a, SomeS ks a W := by
  have hx := fun k hm => one_of_laid h k (hk k hm) (h1 k hm)
  refine ⟨fun k => if hm : k ∈ ks then Classical.choose (hx k hm) else ⟨0, 0, none⟩, fun k hm => ?_⟩
  unfold sval
  simp only [hm, dif_pos]
  exact Classical.choose_spec (hx k hm)
def isN (s : String) (x : String × DataW Unit) : Bool := s == x.1
theorem pow_of_laid {W : World} {l : List (String × DataW Unit)} (h : laidMetH Tryz.prog l W) (h1 : l.filter (isN "internal/strconv.uint64pow10") = [("internal/strconv.uint64pow10", tabData .u64 pow10Tab)]) :
    TabIs Tryz.prog W "internal/strconv.uint64pow10" .u64 pow10Tab := by
  have h' := h.filter (isN "internal/strconv.uint64pow10")
  rw [h1, MakeChecks.laidMetH_plain _ _ _ (by kernel_rfl)] at h'
  exact tabIs_of_head (g := 13) (by kernel_rfl) (by kernel_rfl) Tryz.underlying251 Tryz.underlying136 (by kernel_rfl) (by kernel_rfl) h'
def deB64 : List Int := [0, 1, 56, 2, 57, 49, 28, 3, 61, 58, 42, 50, 38, 29, 17, 4, 62, 47, 59, 36, 45, 43, 51, 22, 53, 39, 33, 30, 24, 18, 12, 5, 63, 55, 48, 27, 60, 41, 37, 16, 46, 35, 44, 21, 52, 32, 23, 11, 54, 26, 40, 15, 34, 20, 31, 10, 25, 14, 19, 9, 13, 8, 7, 6]
theorem deb_of_laid {W : World} {l : List (String × DataW Unit)} (h : laidMetH Tryz.prog l W) (h1 : l.filter (isN "math/bits.deBruijn64tab") = [("math/bits.deBruijn64tab", tabData .u8 deB64)]) :
    W.cell? ⟨20, 15, none⟩ = some (.int .u8 4) := by
  have h' := h.filter (isN "math/bits.deBruijn64tab")
  rw [h1, MakeChecks.laidMetH_plain _ _ _ (by kernel_rfl)] at h'
  have ht := tabIs_of_head (g := 20) (by kernel_rfl) (by kernel_rfl) Tryz.underlying269 Tryz.underlying5 (by kernel_rfl) (by kernel_rfl) h'
  exact ht.cell (g := 20) (by kernel_rfl) 15 (by decide)
theorem Tabs.of_laid {W : World} {l : List (String × DataW Unit)} (h : laidMetH Tryz.prog l W) (h1 : l.filter (isN "internal/strconv.uint64pow10") = [("internal/strconv.uint64pow10", tabData .u64 pow10Tab)])
    (h2 : l.filter (isN "math/bits.deBruijn64tab") = [("math/bits.deBruijn64tab", tabData .u8 deB64)]) : Tabs W := ⟨pow_of_laid h h1, deb_of_laid h h2⟩
end Go.Proofs.YtbokckjlgjnnjaaGreatDoor

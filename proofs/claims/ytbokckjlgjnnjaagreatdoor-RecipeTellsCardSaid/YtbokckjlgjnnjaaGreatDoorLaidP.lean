/- strconv's two error variables out of the card's condition. No conditions. -/
import Derived.Test.YtbokckjlgjnnjaaGreatDoorLaidK
import Derived.Test.YtbokckjlgjnnjaaGreatDoorAtoi
namespace Go.Proofs.YtbokckjlgjnnjaaGreatDoor
open Go.RowKit Go.Lib

theorem var_of_laid {W : World} {l : List (String × DataW Unit)} (h : laidMetH Tryz.prog l W) (r : SRow) (hg1 : Tryz.prog.globalNamed r.1 = some r.2.2) (hg2 : (Tryz.prog.globals[r.2.2]?).map (·.type) = some 28)
    (h1 : l.filter (isN r.1) = [sentRow "*errors.errorString" r]) (hp : laidMetH Tryz.prog [sentRow "*errors.errorString" r] W = laidMet Tryz.prog [sentRow "*errors.errorString" r] W) :
    ∃ T q, W.cell? ⟨r.2.2, 0, none⟩ = some (.iface T q) := by
  have h' := h.filter (isN r.1)
  rw [h1, hp] at h'
  obtain ⟨a1, s1, hv1, _⟩ := laid_sentinel h' hg1 hg2 Tryz.underlying28 errRow Tryz.underlying265 Tryz.underlying267 rfl rfl Tryz.underlying9 S12_cP S12_cS
  exact ⟨_, _, by simpa using World.var?_cell hg1 hv1 0⟩
def synRow : SRow := ("strconv.ErrSyntax", [105, 110, 118, 97, 108, 105, 100, 32, 115, 121, 110, 116, 97, 120], 15)
def rngRow : SRow := ("strconv.ErrRange", [118, 97, 108, 117, 101, 32, 111, 117, 116, 32, 111, 102, 32, 114, 97, 110, 103, 101], 16)
theorem Perrs.of_laid {W : World} {l : List (String × DataW Unit)} (h : laidMetH Tryz.prog l W) (h1 : l.filter (isN "strconv.ErrSyntax") = [sentRow "*errors.errorString" synRow]) (h2 : l.filter (isN "strconv.ErrRange") = [sentRow "*errors.errorString" rngRow]) : Perrs W :=
  ⟨var_of_laid h synRow (by kernel_rfl) (by kernel_rfl) h1 (MakeChecks.laidMetH_plain _ _ _ (by kernel_rfl)), var_of_laid h rngRow (by kernel_rfl) (by kernel_rfl) h2 (MakeChecks.laidMetH_plain _ _ _ (by kernel_rfl))⟩
end Go.Proofs.YtbokckjlgjnnjaaGreatDoor

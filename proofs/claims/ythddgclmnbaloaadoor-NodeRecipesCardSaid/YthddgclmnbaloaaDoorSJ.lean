/- strings.Join over a slice of texts that is read. No conditions but bounds. -/
import Derived.Test.YthddgclmnbaloaaDoorPrt2
import Derived.Test.YthddgclmnbaloaaDoorRead
import Derived.Test.YthddgclmnbaloaaDoorSame
import Derived.Laws.OwnMore
namespace Go.Proofs.YthddgclmnbaloaaDoor
open Go.RowKit Go.Lib

theorem Join_any (L : List Bytes) (sep : ByteArray) (v : Value) (w : World) (hv : Rd w w.heap.size v (L.map VT)) (hl : (join L sep.data.toList).length ≤ 1099511627776) (hn : L.length ≤ 1099511627776) :
    Calls Tryd.prog 67 #[v, .string sep] w fun e w' => e = .returned (.string (bs (join L sep.data.toList))) ∧ Below w.heap.size w w' := by
  obtain ⟨A, c, rfl, hc, hx⟩ := hv
  rw [List.length_map] at hc
  have hm : (L.map bs).map (fun x => x.data.toList) = L := by
    rw [List.map_map]
    conv => rhs; rw [← List.map_id L]
    exact List.map_congr_left (fun x _ => bs_toList x)
  cases L with
  | nil =>
    exact (Tryd.strings_Join_none A c sep w).mono fun e w' ⟨he, hw⟩ => ⟨he, by rw [hw]; exact Below.refl _ _⟩
  | cons x r =>
    obtain ⟨g, o, rfl, hg, hcell⟩ := hx (by simp)
    have h := Tryd.strings_Join g o c ((x :: r).map bs) sep w (fun j y hy => hcell j _ (by
      rw [List.getElem?_map] at hy ⊢
      cases hj : (x :: r)[j]? with
      | none => rw [hj] at hy; cases hy
      | some z => rw [hj] at hy; simp only [Option.map_some, Option.some.injEq] at hy ⊢; rw [← hy])) hg (by rw [List.length_map]; omega) (by rw [List.length_map]; exact hc) (by rw [hm]; omega)
    rw [hm, List.length_map] at h
    rw [List.length_map]
    exact h
theorem info_stringT : (Tryd.prog.info? 9).map (fun i => (i.zero, i.size, i.bytes)) = some (some (.string ByteArray.empty), 1, 16) := by kernel_rfl
end Go.Proofs.YthddgclmnbaloaaDoor

/- Sents out of the card's condition: the twelve sentinels and the type handle lie as the program's text lays them. No conditions. -/
import Derived.Test.YthddgclmnbaloaaDoorLaidS
import Derived.Test.YthddgclmnbaloaaDoorPrt2
namespace Go.Proofs.YthddgclmnbaloaaDoor
open Go.RowKit
def S12 : List SRow := [("cornbin/api.ErrText", [99, 111, 114, 110, 98, 105, 110, 58, 32, 116, 101, 120, 116], 7),
  ("cornbin/api.ErrBound", [99, 111, 114, 110, 98, 105, 110, 58, 32, 98, 111, 117, 110, 100], 4),
  ("cornbin/api.ErrShape", [99, 111, 114, 110, 98, 105, 110, 58, 32, 115, 104, 97, 112, 101], 8),
  ("cornbin/api.ErrName", [99, 111, 114, 110, 98, 105, 110, 58, 32, 110, 97, 109, 101], 3),
  ("cornbin/api.ErrNone", [99, 111, 114, 110, 98, 105, 110, 58, 32, 110, 111, 110, 101], 2),
  ("cornbin/api.ErrExist", [99, 111, 114, 110, 98, 105, 110, 58, 32, 101, 120, 105, 115, 116], 0),
  ("cornbin/api.ErrFull", [99, 111, 114, 110, 98, 105, 110, 58, 32, 102, 117, 108, 108], 1),
  ("cornbin/api.ErrOrder", [99, 111, 114, 110, 98, 105, 110, 58, 32, 111, 114, 100, 101, 114], 9),
  ("cornbin/api.ErrSum", [99, 111, 114, 110, 98, 105, 110, 58, 32, 115, 117, 109], 10),
  ("cornbin/api.ErrClash", [99, 111, 114, 110, 98, 105, 110, 58, 32, 99, 108, 97, 115, 104], 5),
  ("cornbin/api.ErrUsed", [99, 111, 114, 110, 98, 105, 110, 58, 32, 117, 115, 101, 100], 6),
  ("cornbin/api.ErrOff", [99, 111, 114, 110, 98, 105, 110, 58, 32, 111, 102, 102], 11)]
theorem S12_ok : (S12.all fun x => Tryd.prog.globalNamed x.1 == some x.2.2 && (Tryd.prog.globals[x.2.2]?).map (·.type) == some 30) = true := by kernel_rfl
theorem errStar : "*" ++ "errors.errorString" = "*errors.errorString" := by decide
theorem errRow (u : TypeId) (h : Tryd.prog.typeName? 3 u = some "*errors.errorString") : u = 211 :=
  typeName_ptr_named (nm := "errors.errorString") (by rw [errStar]; kernel_rfl) (by kernel_rfl) (by decide) u (by rw [errStar]; exact h)
theorem S12_cP : Tryd.prog.cellsOf 229 = 1 := by kernel_rfl
theorem S12_cS : Tryd.prog.cellsOf 9 = 1 := by kernel_rfl
def isErr (x : String × DataW Unit) : Bool := S12.any fun y => y.1 == x.1
def isEty (x : String × DataW Unit) : Bool := x.1 == "errors.errorType"
def etyRow : String × DataW Unit := ("errors.errorType", .iface "internal/reflectlite.rtype" (.agg [.ptr (.lit (.string [101, 114, 114, 111, 114]))]))
theorem ety_row : ((List.range 241).filter fun t => Tryd.prog.rowNamed t [101, 114, 114, 111, 114]) = [30] := by kernel_rfl
theorem ety_size : Tryd.prog.types.size = 241 := by kernel_rfl
theorem ety_rt : (Tryd.prog.cutTypes.find? (·.1 == "internal/reflectlite.rtype")).map (·.2) = some 165 := by kernel_rfl
theorem ety_g : Tryd.prog.globalNamed "errors.errorType" = some 12 := by kernel_rfl
theorem ety_h : typeHandle Tryd.prog 30 = .pointer (some ⟨16, 30, none⟩) := by kernel_rfl
theorem ety_of {W : World} {l : List (String × DataW Unit)} (h : laidMetH Tryd.prog l W) (h2 : l.filter isEty = [etyRow]) :
    W.cell? ⟨12, 0, none⟩ = some (.iface 165 (.agg #[.pointer (some ⟨16, 30, none⟩)])) := by
  have h' := h.filter isEty
  rw [h2] at h'
  have h3 : laidMet Tryd.prog [] W ∧ handlesMet Tryd.prog [etyRow] W := h'
  obtain ⟨name, u, ty, e1, e2, e3, e4, e5⟩ := h3.2 _ (List.mem_singleton.2 rfl)
  have en : name = [101, 114, 114, 111, 114] := (Option.some.inj e1).symm
  subst en
  obtain rfl := Option.some.inj (ety_rt.symm.trans e2)
  have hm : ty ∈ (List.range 241).filter fun t => Tryd.prog.rowNamed t [101, 114, 114, 111, 114] := List.mem_filter.2 ⟨List.mem_range.2 (by rw [← ety_size]; exact e3), e4⟩
  rw [ety_row] at hm
  obtain rfl := List.mem_singleton.1 hm
  rw [ety_h] at e5
  simpa using World.var?_cell ety_g e5 0
theorem S12_get (k : Nat) (hk : k < 12) : ∃ x ∈ S12, x.2.2 = sv k := by
  have h : S12.map (·.2.2) = (List.range 12).map sv := rfl
  have hm : sv k ∈ S12.map (·.2.2) := by rw [h]; exact List.mem_map.2 ⟨k, List.mem_range.2 hk, rfl⟩
  obtain ⟨x, hx, he⟩ := List.mem_map.1 hm
  exact ⟨x, hx, he⟩
theorem sv_inj (i j : Nat) (hi : i < 12) (hj : j < 12) (h : i ≠ j) : sv i ≠ sv j := by
  have : ((List.range 12).all fun i => (List.range 12).all fun j => i == j || sv i != sv j) = true := by decide
  simp only [List.all_eq_true, List.mem_range, Bool.or_eq_true, beq_iff_eq, bne_iff_ne] at this
  exact (this i hi j hj).resolve_left h
theorem sents_err {W : World} {l : List (String × DataW Unit)} (h : laidMetH Tryd.prog l W) (h1 : l.filter isErr = S12.map (sentRow "*errors.errorString")) :
    ∃ a : Nat → Addr, (∀ x ∈ S12, SentAt 211 a W x) ∧ ∀ x ∈ S12, ∀ y ∈ S12, x.2.2 ≠ y.2.2 → a x.2.2 ≠ a y.2.2 := by
  have h' := h.filter isErr
  rw [h1, MakeChecks.laidMetH_plain _ _ _ (by kernel_rfl)] at h'
  obtain ⟨ps, hl, hnd, hr⟩ := h'
  obtain ⟨a, ha, hne⟩ := sents_of_laidVars Tryd.underlying30 errRow Tryd.underlying211 Tryd.underlying229 rfl rfl Tryd.underlying9 S12_cP S12_cS S12 ps (fun x hx => by
    have := List.all_eq_true.1 S12_ok x hx
    simpa using this) (by decide) hl hnd hr
  exact ⟨a, fun x hx => (ha x hx).1, hne⟩
theorem Sents.of_laid {W : World} {l : List (String × DataW Unit)} (h : laidMetH Tryd.prog l W) (h1 : l.filter isErr = S12.map (sentRow "*errors.errorString")) (h2 : l.filter isEty = [etyRow]) : ∃ a, Sents a W := by
  obtain ⟨a, ha, hne⟩ := sents_err h h1
  refine ⟨fun k => a (sv k), fun k hk => ?_, fun k hk => ?_, fun i j hi hj hij => ?_, ety_of h h2⟩
  · obtain ⟨x, hx, he⟩ := S12_get k hk
    have := (ha x hx).1
    rw [he] at this
    exact this
  · obtain ⟨x, hx, he⟩ := S12_get k hk
    have := (ha x hx).2.2
    rw [he] at this
    exact this
  · obtain ⟨x, hx, hxe⟩ := S12_get i hi
    obtain ⟨y, hy, hye⟩ := S12_get j hj
    have := hne x hx y hy (by rw [hxe, hye]; exact sv_inj i j hi hj hij)
    rwa [hxe, hye] at this
end Go.Proofs.YthddgclmnbaloaaDoor

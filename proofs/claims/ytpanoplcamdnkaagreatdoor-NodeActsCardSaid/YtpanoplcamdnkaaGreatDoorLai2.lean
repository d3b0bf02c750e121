/- LaidS, SentL, LaidJ in one text. Conditions: as each part says. -/

import Derived.LaidLaws
import Derived.LaidHandle
import Derived.LaidSub
import Derived.MakeChecks
import Derived.Stop.LaidErr
import Derived.WalkKit
import Derived.Test.YtpanoplcamdnkaaGreatDoorPrt2
/- Out of the card's condition: sentinel errors lie at different addresses, each with its text. No program in sight; no conditions. -/
namespace Go.Proofs.YtpanoplcamdnkaaGreatDoor
open Go.RowKit
/-- a sentinel's name, text and variable -/
abbrev SRow := String × List UInt8 × Nat
def sentRow (nm : String) (x : SRow) : String × DataW Unit := (x.1, .iface nm (.ptr (.agg [.lit (.string x.2.1)])))
/-- what the condition gives of one -/
def SentAt (tp : TypeId) (a : Nat → Addr) (W : World) (x : SRow) : Prop :=
  W.cell? ⟨x.2.2, 0, none⟩ = some (.iface tp (.pointer (some (a x.2.2)))) ∧ (∃ s, W.cell? (a x.2.2) = some (.string s) ∧ s.data.toList = x.2.1) ∧ (∃ c t, W.heap[(a x.2.2).block]? = some (.cells c t (0, 0)))
theorem sents_of_laidVars {P : Program} {W : World} {nm : String} {ti tp te ts : TypeId} {ms : Array (String × TypeId)} {f : Field}
    (hi : P.underlying ti = some (.interface ms)) (hrow : ∀ u, P.typeName? 3 u = some nm → u = tp)
    (hp : P.underlying tp = some (.pointer te)) (he : P.underlying te = some (.struct #[f])) (hft : f.type = ts) (hfo : f.offset = 0) (hs : P.underlying ts = some .string) (hc : P.cellsOf te = 1) (hcs : P.cellsOf ts = 1) :
    ∀ (L : List SRow) (ps : List MemPlace), (∀ x ∈ L, P.globalNamed x.1 = some x.2.2 ∧ (P.globals[x.2.2]?).map (·.type) = some ti) → (L.map (·.2.2)).Nodup →
      DataW.LaidVars P W (L.map (sentRow nm)) ps → ps.Nodup → (∀ b off, MemPlace.cell b off ∈ ps → (∃ c t, W.heap[b]? = some (.cells c t (0, 0))) ∧ ∀ u v, W.cell? ⟨b, off, none⟩ = some (.iface u v) → Value.okWide P W .any 0 u v) →
      ∃ a : Nat → Addr, (∀ x ∈ L, SentAt tp a W x ∧ MemPlace.cell (a x.2.2).block (a x.2.2).off ∈ ps) ∧ ∀ x ∈ L, ∀ y ∈ L, x.2.2 ≠ y.2.2 → a x.2.2 ≠ a y.2.2
  | [], _, _, _, _, _, _ => ⟨fun _ => ⟨0, 0, none⟩, fun x h => (by cases h), fun x h => (by cases h)⟩
  | x :: L, ps, hg, hnd, hl, hps, hrows => by
    rw [List.map_cons] at hl
    obtain ⟨g0, t0, cs0, f0, p0, q0, hg0, ht0, hv0, hd0, hr, e0⟩ := hl
    obtain ⟨hgx, htx⟩ := hg x List.mem_cons_self
    obtain rfl := Option.some.inj (hgx.symm.trans hg0)
    obtain rfl := Option.some.inj (htx.symm.trans ht0)
    subst e0
    rw [List.map_cons, List.nodup_cons] at hnd
    obtain ⟨l0⟩ := cs0
    have ok0 : ∀ u v, l0 = [.iface u v] → Value.okWide P W .any 0 u v := fun u v e => by
      subst e
      exact (hrows x.2.2 0 (by simp [MemPlace.row])).2 u v (by simpa using World.var?_cell hg0 hv0 0)
    obtain ⟨a0, s0, rfl, hc0, hs0, _, rfl⟩ := errorString_of_trod hi hrow hp he hft hfo hs hc hcs hd0 ok0
    obtain ⟨a, ha, hne⟩ := sents_of_laidVars hi hrow hp he hft hfo hs hc hcs L q0 (fun y hy => hg y (List.mem_cons_of_mem _ hy)) hnd.2 hr (List.Nodup.sublist (List.sublist_append_right _ _) hps) (fun b off hm => hrows b off (List.mem_append_right _ hm))
    have hother : ∀ y ∈ L, y.2.2 ≠ x.2.2 := fun y hy h0 => hnd.1 (by rw [← h0]; exact List.mem_map_of_mem hy)
    have hpl : MemPlace.cell a0.block a0.off ∈ MemPlace.row ⟨x.2.2, 0, none⟩ 1 ++ MemPlace.row a0 1 := by simp [MemPlace.row]
    have hpl2 : MemPlace.cell a0.block a0.off ∉ q0 := fun hm => (List.nodup_append.1 hps).2.2 _ hpl _ hm rfl
    refine ⟨fun g => if g = x.2.2 then a0 else a g, fun y hy => ?_, fun y hy z hz hyz => ?_⟩
    · rcases List.mem_cons.1 hy with rfl | hy
      · simp only [SentAt, if_true]
        refine ⟨⟨by simpa using World.var?_cell hg0 hv0 0, ⟨s0, hc0, hs0⟩, (hrows _ _ (List.mem_append_left _ hpl)).1⟩, List.mem_append_left _ hpl⟩
      · obtain ⟨⟨h1, h2, h3⟩, h4⟩ := ha y hy
        simp only [SentAt, if_neg (hother y hy)]
        exact ⟨⟨h1, h2, h3⟩, List.mem_append_right _ h4⟩
    · rcases List.mem_cons.1 hy with rfl | hy'
      · rcases List.mem_cons.1 hz with rfl | hz'
        · exact absurd rfl hyz
        · simp only [if_true, if_neg (hother z hz')]
          intro h0
          exact hpl2 (by rw [h0]; exact (ha z hz').2)
      · rcases List.mem_cons.1 hz with rfl | hz'
        · simp only [if_true, if_neg (hother y hy')]
          intro h0
          exact hpl2 (by rw [← h0]; exact (ha y hy').2)
        · simp only [if_neg (hother y hy'), if_neg (hother z hz')]
          exact hne y hy' z hz' hyz
end Go.Proofs.YtpanoplcamdnkaaGreatDoor
/- Sents out of the card's condition: the twelve sentinels and the type handle lie as the program's text lays them. No conditions. -/
namespace Go.Proofs.YtpanoplcamdnkaaGreatDoor
open Go.RowKit
def S12 : List SRow := [("cornbin/api.ErrText", [99, 111, 114, 110, 98, 105, 110, 58, 32, 116, 101, 120, 116], 5),
  ("cornbin/api.ErrBound", [99, 111, 114, 110, 98, 105, 110, 58, 32, 98, 111, 117, 110, 100], 3),
  ("cornbin/api.ErrShape", [99, 111, 114, 110, 98, 105, 110, 58, 32, 115, 104, 97, 112, 101], 8),
  ("cornbin/api.ErrName", [99, 111, 114, 110, 98, 105, 110, 58, 32, 110, 97, 109, 101], 9),
  ("cornbin/api.ErrNone", [99, 111, 114, 110, 98, 105, 110, 58, 32, 110, 111, 110, 101], 2),
  ("cornbin/api.ErrExist", [99, 111, 114, 110, 98, 105, 110, 58, 32, 101, 120, 105, 115, 116], 0),
  ("cornbin/api.ErrFull", [99, 111, 114, 110, 98, 105, 110, 58, 32, 102, 117, 108, 108], 1),
  ("cornbin/api.ErrOrder", [99, 111, 114, 110, 98, 105, 110, 58, 32, 111, 114, 100, 101, 114], 7),
  ("cornbin/api.ErrSum", [99, 111, 114, 110, 98, 105, 110, 58, 32, 115, 117, 109], 10),
  ("cornbin/api.ErrClash", [99, 111, 114, 110, 98, 105, 110, 58, 32, 99, 108, 97, 115, 104], 4),
  ("cornbin/api.ErrUsed", [99, 111, 114, 110, 98, 105, 110, 58, 32, 117, 115, 101, 100], 6),
  ("cornbin/api.ErrOff", [99, 111, 114, 110, 98, 105, 110, 58, 32, 111, 102, 102], 11)]
theorem S12_ok : (S12.all fun x => Tryz.prog.globalNamed x.1 == some x.2.2 && (Tryz.prog.globals[x.2.2]?).map (·.type) == some 31) = true := by kernel_rfl
theorem errStar : "*" ++ "errors.errorString" = "*errors.errorString" := by decide
theorem errRow (u : TypeId) (h : Tryz.prog.typeName? 3 u = some "*errors.errorString") : u = 361 :=
  typeName_ptr_named (nm := "errors.errorString") (by rw [errStar]; kernel_rfl) (by kernel_rfl) (by decide) u (by rw [errStar]; exact h)
theorem S12_cP : Tryz.prog.cellsOf 363 = 1 := by kernel_rfl
theorem S12_cS : Tryz.prog.cellsOf 9 = 1 := by kernel_rfl
def isErr (x : String × DataW Unit) : Bool := S12.any fun y => y.1 == x.1
def isEty (x : String × DataW Unit) : Bool := x.1 == "errors.errorType"
def etyRow : String × DataW Unit := ("errors.errorType", .iface "internal/reflectlite.rtype" (.agg [.ptr (.lit (.string [101, 114, 114, 111, 114]))]))
theorem ety_row : ((List.range 392).filter fun t => Tryz.prog.rowNamed t [101, 114, 114, 111, 114]) = [31] := by kernel_rfl
theorem ety_size : Tryz.prog.types.size = 392 := by kernel_rfl
theorem ety_rt : (Tryz.prog.cutTypes.find? (·.1 == "internal/reflectlite.rtype")).map (·.2) = some 295 := by kernel_rfl
theorem ety_g : Tryz.prog.globalNamed "errors.errorType" = some 12 := by kernel_rfl
theorem ety_h : typeHandle Tryz.prog 31 = .pointer (some ⟨21, 31, none⟩) := by kernel_rfl
theorem ety_of {W : World} {l : List (String × DataW Unit)} (h : laidMetH Tryz.prog l W) (h2 : l.filter isEty = [etyRow]) :
    W.cell? ⟨12, 0, none⟩ = some (.iface 295 (.agg #[.pointer (some ⟨21, 31, none⟩)])) := by
  have h' := h.filter isEty
  rw [h2] at h'
  have h3 : laidMet Tryz.prog [] W ∧ handlesMet Tryz.prog [etyRow] W := h'
  obtain ⟨name, u, ty, e1, e2, e3, e4, e5⟩ := h3.2 _ (List.mem_singleton.2 rfl)
  have en : name = [101, 114, 114, 111, 114] := (Option.some.inj e1).symm
  subst en
  obtain rfl := Option.some.inj (ety_rt.symm.trans e2)
  have hm : ty ∈ (List.range 392).filter fun t => Tryz.prog.rowNamed t [101, 114, 114, 111, 114] := List.mem_filter.2 ⟨List.mem_range.2 (by rw [← ety_size]; exact e3), e4⟩
  rw [ety_row] at hm
  obtain rfl := List.mem_singleton.1 hm
  rw [ety_h] at e5
  simpa using World.var?_cell ety_g e5 0
theorem S12_get (k : Nat) (hk : k < 12) : ∃ x ∈ S12, x.2.2 = sv k := by
  have h : S12.map (·.2.2) = (List.range 12).map sv := rfl
  have hm : sv k ∈ S12.map (·.2.2) := by rw [h]; exact List.mem_map.2 ⟨k, List.mem_range.2 hk, rfl⟩
  obtain ⟨x, hx, he⟩ := List.mem_map.1 hm
  exact ⟨x, hx, he⟩
theorem sv_inj (i j : Nat) (hi : i < 12) (hj : j < 12) (h : i ≠ j) : sv i ≠ sv j := by
  have : ((List.range 12).all fun i => (List.range 12).all fun j => i == j || sv i != sv j) = true := by decide
  simp only [List.all_eq_true, List.mem_range, Bool.or_eq_true, beq_iff_eq, bne_iff_ne] at this
  exact (this i hi j hj).resolve_left h
theorem sents_err {W : World} {l : List (String × DataW Unit)} (h : laidMetH Tryz.prog l W) (h1 : l.filter isErr = S12.map (sentRow "*errors.errorString")) :
    ∃ a : Nat → Addr, (∀ x ∈ S12, SentAt 361 a W x) ∧ ∀ x ∈ S12, ∀ y ∈ S12, x.2.2 ≠ y.2.2 → a x.2.2 ≠ a y.2.2 := by
  have h' := h.filter isErr
  rw [h1, MakeChecks.laidMetH_plain _ _ _ (by kernel_rfl)] at h'
  obtain ⟨ps, hl, hnd, hr⟩ := h'
  obtain ⟨a, ha, hne⟩ := sents_of_laidVars Tryz.underlying31 errRow Tryz.underlying361 Tryz.underlying363 rfl rfl Tryz.underlying9 S12_cP S12_cS S12 ps (fun x hx => by
    have := List.all_eq_true.1 S12_ok x hx
    simpa using this) (by decide) hl hnd hr
  exact ⟨a, fun x hx => (ha x hx).1, hne⟩
theorem Sents.of_laid {W : World} {l : List (String × DataW Unit)} (h : laidMetH Tryz.prog l W) (h1 : l.filter isErr = S12.map (sentRow "*errors.errorString")) (h2 : l.filter isEty = [etyRow]) : ∃ a, Sents a W := by
  obtain ⟨a, ha, hne⟩ := sents_err h h1
  refine ⟨fun k => a (sv k), fun k hk => ?_, fun k hk => ?_, fun i j hi hj hij => ?_, ety_of h h2⟩
  · obtain ⟨x, hx, he⟩ := S12_get k hk
    have := (ha x hx).1
    rw [he] at this
    exact this
  · obtain ⟨x, hx, he⟩ := S12_get k hk
    have := (ha x hx).2.2
    rw [he] at this
    exact this
  · obtain ⟨x, hx, hxe⟩ := S12_get i hi
    obtain ⟨y, hy, hye⟩ := S12_get j hj
    have := hne x hx y hy (by rw [hxe, hye]; exact sv_inj i j hi hj hij)
    rwa [hxe, hye] at this
end Go.Proofs.YtpanoplcamdnkaaGreatDoor
/- Some sentinels out of the card's condition. No conditions. -/
namespace Go.Proofs.YtpanoplcamdnkaaGreatDoor
open Go.RowKit Go.Lib

def srow (k : Nat) : SRow := S12.getD k ("", [], 0)
def isK (k : Nat) (x : String × DataW Unit) : Bool := (srow k).1 == x.1
def isN (s : String) (x : String × DataW Unit) : Bool := s == x.1
end Go.Proofs.YtpanoplcamdnkaaGreatDoor

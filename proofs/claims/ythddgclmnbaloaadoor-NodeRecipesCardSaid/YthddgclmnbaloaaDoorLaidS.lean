/- Out of the card's condition: sentinel errors lie at different addresses, each with its text. No program in sight; no conditions. -/
import Derived.LaidLaws
import Derived.LaidHandle
import Derived.LaidSub
import Derived.MakeChecks
import Derived.Stop.LaidErr
import Derived.WalkKit
namespace Go.Proofs.YthddgclmnbaloaaDoor
open Go.RowKit
/-- a sentinel's name, text and variable -/
abbrev SRow := String × List UInt8 × Nat
def sentRow (nm : String) (x : SRow) : String × DataW Unit := (x.1, .iface nm (.ptr (.agg [.lit (.string x.2.1)])))
/-- what the condition gives of one -/
def SentAt (tp : TypeId) (a : Nat → Addr) (W : World) (x : SRow) : Prop :=
  W.cell? ⟨x.2.2, 0, none⟩ = some (.iface tp (.pointer (some (a x.2.2)))) ∧ (∃ s, W.cell? (a x.2.2) = some (.string s) ∧ s.data.toList = x.2.1) ∧ (∃ c t, W.heap[(a x.2.2).block]? = some (.cells c t (0, 0)))
theorem addr_place {a b : Addr} (ha : a.spot = none) (hb : b.spot = none) (h : a ≠ b) : MemPlace.cell a.block a.off ≠ MemPlace.cell b.block b.off := by
  intro he
  injection he with h1 h2
  apply h
  cases a; cases b; simp_all
theorem spot_of_cell {W : World} {a : Addr} {v : Value} (h : W.cell? a = some v) : a.spot = none := by
  unfold World.cell? at h
  split at h
  · cases hs : a.spot with
    | none => rfl
    | some x => rw [hs] at h; simp at h
  · cases h
theorem sents_of_laidVars {P : Program} {W : World} {nm : String} {ti tp te ts : TypeId} {ms : Array (String × TypeId)} {f : Field}
    (hi : P.underlying ti = some (.interface ms)) (hrow : ∀ u, P.typeName? 3 u = some nm → u = tp)
    (hp : P.underlying tp = some (.pointer te)) (he : P.underlying te = some (.struct #[f])) (hft : f.type = ts) (hfo : f.offset = 0) (hs : P.underlying ts = some .string) (hc : P.cellsOf te = 1) (hcs : P.cellsOf ts = 1) :
    ∀ (L : List SRow) (ps : List MemPlace), (∀ x ∈ L, P.globalNamed x.1 = some x.2.2 ∧ (P.globals[x.2.2]?).map (·.type) = some ti) → (L.map (·.2.2)).Nodup →
      DataW.LaidVars P W (L.map (sentRow nm)) ps → ps.Nodup → (∀ b off, MemPlace.cell b off ∈ ps → (∃ c t, W.heap[b]? = some (.cells c t (0, 0))) ∧ ∀ u v, W.cell? ⟨b, off, none⟩ = some (.iface u v) → Value.okWide P W .any 0 u v) →
      ∃ a : Nat → Addr, (∀ x ∈ L, SentAt tp a W x ∧ MemPlace.cell (a x.2.2).block (a x.2.2).off ∈ ps) ∧ ∀ x ∈ L, ∀ y ∈ L, x.2.2 ≠ y.2.2 → a x.2.2 ≠ a y.2.2
  | [], _, _, _, _, _, _ => ⟨fun _ => ⟨0, 0, none⟩, fun x h => (by cases h), fun x h => (by cases h)⟩
  | x :: L, ps, hg, hnd, hl, hps, hrows => by
    rw [List.map_cons] at hl
    obtain ⟨g0, t0, cs0, f0, p0, q0, hg0, ht0, hv0, hd0, hr, e0⟩ := hl
    obtain ⟨hgx, htx⟩ := hg x List.mem_cons_self
    obtain rfl := Option.some.inj (hgx.symm.trans hg0)
    obtain rfl := Option.some.inj (htx.symm.trans ht0)
    subst e0
    rw [List.map_cons, List.nodup_cons] at hnd
    obtain ⟨l0⟩ := cs0
    have ok0 : ∀ u v, l0 = [.iface u v] → Value.okWide P W .any 0 u v := fun u v e => by
      subst e
      exact (hrows x.2.2 0 (by simp [MemPlace.row])).2 u v (by simpa using World.var?_cell hg0 hv0 0)
    obtain ⟨a0, s0, rfl, hc0, hs0, _, rfl⟩ := errorString_of_trod hi hrow hp he hft hfo hs hc hcs hd0 ok0
    obtain ⟨a, ha, hne⟩ := sents_of_laidVars hi hrow hp he hft hfo hs hc hcs L q0 (fun y hy => hg y (List.mem_cons_of_mem _ hy)) hnd.2 hr (List.Nodup.sublist (List.sublist_append_right _ _) hps) (fun b off hm => hrows b off (List.mem_append_right _ hm))
    have hother : ∀ y ∈ L, y.2.2 ≠ x.2.2 := fun y hy h0 => hnd.1 (by rw [← h0]; exact List.mem_map_of_mem hy)
    have hpl : MemPlace.cell a0.block a0.off ∈ MemPlace.row ⟨x.2.2, 0, none⟩ 1 ++ MemPlace.row a0 1 := by simp [MemPlace.row]
    have hpl2 : MemPlace.cell a0.block a0.off ∉ q0 := fun hm => (List.nodup_append.1 hps).2.2 _ hpl _ hm rfl
    refine ⟨fun g => if g = x.2.2 then a0 else a g, fun y hy => ?_, fun y hy z hz hyz => ?_⟩
    · rcases List.mem_cons.1 hy with rfl | hy
      · simp only [SentAt, if_true]
        refine ⟨⟨by simpa using World.var?_cell hg0 hv0 0, ⟨s0, hc0, hs0⟩, (hrows _ _ (List.mem_append_left _ hpl)).1⟩, List.mem_append_left _ hpl⟩
      · obtain ⟨⟨h1, h2, h3⟩, h4⟩ := ha y hy
        simp only [SentAt, if_neg (hother y hy)]
        exact ⟨⟨h1, h2, h3⟩, List.mem_append_right _ h4⟩
    · rcases List.mem_cons.1 hy with rfl | hy'
      · rcases List.mem_cons.1 hz with rfl | hz'
        · exact absurd rfl hyz
        · simp only [if_true, if_neg (hother z hz')]
          intro h0
          exact hpl2 (by rw [h0]; exact (ha z hz').2)
      · rcases List.mem_cons.1 hz with rfl | hz'
        · simp only [if_true, if_neg (hother y hy')]
          intro h0
          exact hpl2 (by rw [← h0]; exact (ha y hy').2)
        · simp only [if_neg (hother y hy'), if_neg (hother z hz')]
          exact hne y hy' z hz' hyz
end Go.Proofs.YthddgclmnbaloaaDoor

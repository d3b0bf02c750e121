/- Words for slices that are read: 'Rd w B v xs': the value v is a slice that reads as the cells xs, below block B. No program in sight; no conditions. -/
import Derived.Test.YtpanoplcamdnkaaGreatDoorBse1
import Derived.Deep.Onto
namespace Go.Proofs.YtpanoplcamdnkaaGreatDoor
open Go.RowKit

def Rd (w : World) (B : Nat) (v : Value) (xs : List Value) : Prop :=
  ∃ A c, v = .slice A xs.length c ∧ xs.length ≤ c ∧ (xs ≠ [] → ∃ g o, A = some ⟨g, o, none⟩ ∧ g < B ∧ ∀ k u, xs[k]? = some u → w.cell? ⟨g, o + k, none⟩ = some u)
theorem Rd.nil (w : World) (B : Nat) : Rd w B (.slice none 0 0) [] := ⟨none, 0, rfl, Nat.le_refl _, fun h => absurd rfl h⟩
theorem Rd.keep {w w' : World} {B : Nat} {v : Value} {xs : List Value} (h : Rd w B v xs) (hk : ∀ p : Addr, p.block < B → w'.cell? p = w.cell? p) : Rd w' B v xs := by
  obtain ⟨A, c, hv, hnc, hx⟩ := h
  refine ⟨A, c, hv, hnc, fun hn => ?_⟩
  obtain ⟨g, o, hA, hg, hc⟩ := hx hn
  exact ⟨g, o, hA, hg, fun k u hu => (hk _ hg).trans (hc k u hu)⟩
theorem Rd.below {w w' : World} {B : Nat} {v : Value} {xs : List Value} (h : Rd w B v xs) (hb : Below B w w') : Rd w' B v xs := h.keep fun _ hp => hb.cell hp
theorem Rd.more {w : World} {B B' : Nat} {v : Value} {xs : List Value} (h : Rd w B v xs) (hB : B ≤ B') : Rd w B' v xs := by
  obtain ⟨A, c, hv, hnc, hx⟩ := h
  refine ⟨A, c, hv, hnc, fun hn => ?_⟩
  obtain ⟨g, o, hA, hg, hc⟩ := hx hn
  exact ⟨g, o, hA, by omega, hc⟩
/-- a row of the call's own is read -/
theorem Rd.own {w : World} {base n : Nat} {e : TypeId} {v : Value} {xs : List Value} (h : w.ownsRow base e 1 v n xs) : Rd w w.heap.size v xs := by
  have hl := h.1
  rcases h.2 with ⟨rfl, h0⟩ | ⟨g, cap, cur, rfl, hb, hh, hnc, hcm, hcs, htk⟩
  · subst h0
    have : xs = [] := List.eq_nil_of_length_eq_zero (by omega)
    subst this
    exact Rd.nil _ _
  · have hn : n = xs.length := by omega
    subst hn
    refine ⟨_, cap, rfl, hnc, fun _ => ⟨g, 0, rfl, (Array.getElem?_eq_some_iff.1 hh).1, fun k u hu => ?_⟩⟩
    have hk : k < xs.length := (List.getElem?_eq_some_iff.1 hu).1
    have h1 : cur[k]? = some u := by
      rw [← htk] at hu
      rw [List.getElem?_take] at hu
      rw [if_pos (by omega)] at hu
      simpa using hu
    simp [World.cell?, hh, h1]
/-- a tail, a beginning of what is read -/
theorem Rd.drop {w : World} {B : Nat} {A : Option Addr} {n c : Nat} {xs : List Value} (h : Rd w B (.slice A n c) xs) (k : Nat) (hk : k < n) :
    ∃ g o, A = some ⟨g, o, none⟩ ∧ Rd w B (.slice (some ⟨g, o + k, none⟩) (n - k) (c - k)) (xs.drop k) := by
  obtain ⟨A', c', hv, hnc, hx⟩ := h
  injection hv with h1 h2 h3
  subst h1; subst h2; subst h3
  obtain ⟨g, o, hA, hg, hc⟩ := hx (by intro h0; subst h0; simp at hk)
  refine ⟨g, o, hA, _, _, by rw [List.length_drop], by rw [List.length_drop]; omega, fun _ => ⟨g, o + k, rfl, hg, fun j u hu => ?_⟩⟩
  rw [List.getElem?_drop] at hu
  rw [Nat.add_assoc]
  exact hc _ u hu
theorem Rd.take {w : World} {B : Nat} {A : Option Addr} {n c : Nat} {xs : List Value} (h : Rd w B (.slice A n c) xs) (k : Nat) (hk : k ≤ n) : Rd w B (.slice A k c) (xs.take k) := by
  obtain ⟨A', c', hv, hnc, hx⟩ := h
  injection hv with h1 h2 h3
  subst h1; subst h2; subst h3
  refine ⟨_, _, by rw [List.length_take, Nat.min_eq_left hk], by rw [List.length_take]; omega, fun hn => ?_⟩
  obtain ⟨g, o, hA, hg, hc⟩ := hx (by intro h0; subst h0; simp at hn)
  refine ⟨g, o, hA, hg, fun j u hu => hc j u ?_⟩
  rw [List.getElem?_take] at hu
  split at hu
  · exact hu
  · cases hu
/-- 's[k:]' as the walk writes it -/
theorem Rd.cut {w : World} {B g o : Nat} {n c : Nat} {xs : List Value} (h : Rd w B (.slice (some ⟨g, o, none⟩) n c) xs) (k : Nat) (hk : k ≤ n) :
    Rd w B (.slice (if c = k then some ⟨g, o, none⟩ else some ⟨g, o + k, none⟩) (n - k) (c - k)) (xs.drop k) := by
  obtain ⟨A', c', hv, hnc, hx⟩ := h
  injection hv with h1 h2 h3
  subst h2; subst h3
  refine ⟨_, _, by rw [List.length_drop], by rw [List.length_drop]; omega, fun hn => ?_⟩
  have hlt : k < xs.length := by
    rcases Nat.lt_or_ge k xs.length with h | h
    · exact h
    · exact absurd (List.drop_eq_nil_of_le h) hn
  rw [if_neg (by omega)]
  obtain ⟨g', o', hA, hg, hc⟩ := hx (by intro h0; subst h0; simp at hlt)
  rw [← h1] at hA
  injection hA with hA
  injection hA with e1 e2
  subst e1; subst e2
  refine ⟨g, o + k, rfl, hg, fun j u hu => ?_⟩
  rw [List.getElem?_drop] at hu
  rw [Nat.add_assoc]
  exact hc _ u hu
theorem Rd.len {w : World} {B : Nat} {A : Option Addr} {n c : Nat} {xs : List Value} (h : Rd w B (.slice A n c) xs) : xs.length = n := by
  obtain ⟨A', c', hv, _, _⟩ := h
  injection hv with _ h2 _
  exact h2.symm
theorem map_ne {α : Type} {f : α → Value} {xs : List α} {k : Nat} (h : k < xs.length) : xs.map f ≠ [] := by
  intro h0; rw [List.map_eq_nil_iff] at h0; rw [h0] at h; simp at h
theorem below_drewN {B : Nat} {a w : World} (h : Below B a w) (n : Nat) : Below B a (w.drewN n) := ⟨h.os, h.tape, h.output, h.size, h.block⟩
end Go.Proofs.YtpanoplcamdnkaaGreatDoor

/- Walks of print.Number, print.Read. Condition: strconv's two error variables hold errors (Perrs), the tables, MaxLen and ErrText lie as named. -/
import Derived.Test.YtbokckjlgjnnjaaDoorPrV
namespace Go.Proofs.YtbokckjlgjnnjaaDoor
open Go.RowKit Go.Lib

/-- the number of a text without needless signs, of so many bytes at most -/
def numOf (l : Bytes) (m : Nat) : Option Nat := match atoiO l with
  | some v => if l.length ≤ m ∧ 0 ≤ v ∧ itoa v = l then some v.toNat else none
  | none => none
def numVal (l : Bytes) (m : Nat) : Int := ((numOf l m).getD 0 : Nat)
theorem numOf_some {l : Bytes} {m k : Nat} (h : numOf l m = some k) : atoiO l = some (k : Int) ∧ l.length ≤ m ∧ l = decDigits k := by
  unfold numOf at h
  cases hv : atoiO l with
  | none => rw [hv] at h; cases h
  | some v =>
    rw [hv] at h
    simp only at h
    split at h
    · next hc =>
      obtain ⟨h1, h2, h3⟩ := hc
      injection h with h
      subst h
      refine ⟨by rw [show ((v.toNat : Nat) : Int) = v by omega], h1, ?_⟩
      rw [← itoa_nat, show ((v.toNat : Nat) : Int) = v by omega, h3]
    · cases h
theorem numOf_dec (k m : Nat) (hk : k < 10 ^ 18) (hm : (decDigits k).length ≤ m) : numOf (decDigits k) m = some k := by
  unfold numOf
  rw [atoiO_digits _ _ (atoiAll_decDigits k hk)]
  simp only
  rw [if_pos ⟨hm, by omega, itoa_nat k⟩, Int.toNat_natCast]
theorem atoiO_bounds {l : Bytes} {v : Int} (h : atoiO l = some v) : -9223372036854775808 ≤ v ∧ v ≤ 9223372036854775807 := Lib.atoiAll_bounds (atoiO_ok h)
/-- an ID's text, read -/
def readId (l : Bytes) : Option (Nat × Nat) := match byteCut 45 l with
  | none => none
  | some (h, d) => match unhexOf h, numOf d 6 with
    | some n, some k => some (n, k)
    | _, _ => none
theorem rd_cells (w : World) (b : Nat) (x y u v : Value) (h0 : w.cell? ⟨b, 0, none⟩ = some x) (h1 : w.cell? ⟨b, 1, none⟩ = some y) :
    ((w.setCell ⟨b, 0, none⟩ u).setCell ⟨b, 1, none⟩ v).cell? ⟨b, 0, none⟩ = some u ∧ ((w.setCell ⟨b, 0, none⟩ u).setCell ⟨b, 1, none⟩ v).cell? ⟨b, 1, none⟩ = some v := by
  have hne : (⟨b, 0, none⟩ : Addr) ≠ ⟨b, 1, none⟩ := by intro h; injection h with _ h; cases h
  have p1 : (w.setCell ⟨b, 0, none⟩ u).cell? ⟨b, 1, none⟩ = some y := (World.cell?_setCell_other _ _ _ _ hne).trans h1
  have p0 : (w.setCell ⟨b, 0, none⟩ u).cell? ⟨b, 0, none⟩ = some u := World.cell?_setCell_same _ _ _ h0
  exact ⟨(World.cell?_setCell_other _ _ _ _ hne.symm).trans p0, World.cell?_setCell_same _ _ _ p1⟩
end Go.Proofs.YtbokckjlgjnnjaaDoor

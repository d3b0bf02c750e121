/- Words for a block of two cells of the call's own. No program in sight. No conditions. -/
import Derived.WalkKit
import Derived.Below
import Derived.Deep.QuietTactic
namespace Go.Proofs.YtpanoplcamdnkaaGreatDoor
open Go.RowKit

structure Box2 (b : Nat) (x y : Value) (w : World) : Prop where
  c0 : w.cell? ⟨b, 0, none⟩ = some x
  c1 : w.cell? ⟨b, 1, none⟩ = some y
  f0 : w.frozen? ⟨b, 0, none⟩ = false
  f1 : w.frozen? ⟨b, 1, none⟩ = false
theorem Box2.lt {b : Nat} {x y : Value} {w : World} (h : Box2 b x y w) : b < w.heap.size := World.block_lt_of_cell? w _ h.c0
theorem Box2.below {b B : Nat} {x y : Value} {w w' : World} (h : Box2 b x y w) (hb : Below B w w') (hB : b < B) : Box2 b x y w' :=
  ⟨(hb.cell (p := ⟨b, 0, none⟩) hB).trans h.c0, (hb.cell (p := ⟨b, 1, none⟩) hB).trans h.c1, (hb.frozen (p := ⟨b, 0, none⟩) hB).trans h.f0, (hb.frozen (p := ⟨b, 1, none⟩) hB).trans h.f1⟩
theorem Box2.mk' (w : World) (x y : Value) (t : TypeId) : Box2 w.heap.size x y (w.alloc (.cells #[x, y] t)) :=
  ⟨by rw [World.cell?_alloc_at _ _ _ _ rfl]; rfl, by rw [World.cell?_alloc_at _ _ _ _ rfl]; rfl, World.frozen?_alloc_new _ _ _ _, World.frozen?_alloc_new _ _ _ _⟩
theorem Box2.alloc {b : Nat} {x y : Value} {w : World} (h : Box2 b x y w) (o : Obj) : Box2 b x y (w.alloc o) := h.below ((Below.refl w.heap.size w).alloc (Nat.le_refl _) o) h.lt
theorem Box2.drewN {b : Nat} {x y : Value} {w : World} (h : Box2 b x y w) (n : Nat) : Box2 b x y (w.drewN n) := ⟨h.c0, h.c1, h.f0, h.f1⟩
theorem Box2.set {b : Nat} {x y : Value} {w : World} (h : Box2 b x y w) (u v : Value) : Box2 b u v ((w.setCell ⟨b, 0, none⟩ u).setCell ⟨b, 1, none⟩ v) := by
  have hne : (⟨b, 0, none⟩ : Addr) ≠ ⟨b, 1, none⟩ := by intro h; injection h with _ h; cases h
  have p1 : (w.setCell ⟨b, 0, none⟩ u).cell? ⟨b, 1, none⟩ = some y := (World.cell?_setCell_other _ _ _ _ hne).trans h.c1
  have p0 : (w.setCell ⟨b, 0, none⟩ u).cell? ⟨b, 0, none⟩ = some u := World.cell?_setCell_same _ _ _ h.c0
  exact ⟨(World.cell?_setCell_other _ _ _ _ hne.symm).trans p0, World.cell?_setCell_same _ _ _ p1, by rw [World.frozen?_setCell, World.frozen?_setCell]; exact h.f0, by rw [World.frozen?_setCell, World.frozen?_setCell]; exact h.f1⟩
/-- what the walk reads behind the two stores -/
theorem Box2.rd {b : Nat} {x y : Value} {w : World} (h : Box2 b x y w) (u v : Value) :
    ((w.setCell ⟨b, 0, none⟩ u).setCell ⟨b, 1, none⟩ v).cell? ⟨b, 0, none⟩ = some u ∧ ((w.setCell ⟨b, 0, none⟩ u).setCell ⟨b, 1, none⟩ v).cell? ⟨b, 1, none⟩ = some v ∧ (w.setCell ⟨b, 0, none⟩ u).cell? ⟨b, 0, none⟩ = some u :=
  ⟨(h.set u v).c0, (h.set u v).c1, World.cell?_setCell_same _ _ _ h.c0⟩
theorem below_set2 {B b : Nat} {a w : World} (h : Below B a w) (hb : B ≤ b) (u v : Value) : Below B a ((w.setCell ⟨b, 0, none⟩ u).setCell ⟨b, 1, none⟩ v) :=
  (h.setCell (p := ⟨b, 0, none⟩) hb u).setCell (p := ⟨b, 1, none⟩) hb v
end Go.Proofs.YtpanoplcamdnkaaGreatDoor

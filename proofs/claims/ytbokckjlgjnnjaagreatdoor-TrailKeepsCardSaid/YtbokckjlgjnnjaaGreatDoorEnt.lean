/- Entries of a trail in memory: a slice that reads as a trail; a row of the call's own that holds one. No conditions. -/
import Derived.Test.YtbokckjlgjnnjaaGreatDoorTrl0
import Derived.Test.YtbokckjlgjnnjaaGreatDoorRcC
namespace Go.Proofs.YtbokckjlgjnnjaaGreatDoor
open Go.RowKit Go.Lib

abbrev EntX := Ent × Value
abbrev EntXL := List EntX
def entCells (x : EntX) : List Value := [.int .i64 x.1.day, VT x.1.r.name, .int .i64 x.1.r.len, .int .u32 (x.1.r.print : Int), x.2]
abbrev entV (x : EntX) : Value := .agg #[.int .i64 x.1.day, VT x.1.r.name, .int .i64 x.1.r.len, .int .u32 (x.1.r.print : Int), x.2]
abbrev rcpAgg (r : Rcp) (sl : Value) : Value := .agg #[VT r.name, .int .i64 r.len, .int .u32 (r.print : Int), sl]
def entRow (E : EntXL) : List Value := E.flatMap entCells
theorem entRow_length (L : EntXL) : (entRow L).length = L.length * 5 := by
  induction L with
  | nil => rfl
  | cons o l ih => rw [show entRow (o :: l) = entCells o ++ entRow l from rfl, List.length_append, ih, show (entCells o).length = 5 from rfl, List.length_cons]; omega
theorem entRow_append (a b : EntXL) : entRow (a ++ b) = entRow a ++ entRow b := List.flatMap_append
theorem entRow_snoc (a : EntXL) (x : EntX) : entRow (a ++ [x]) = entRow a ++ entCells x := by rw [entRow_append]; simp [entRow]
theorem entRow_at (l : EntXL) (k : Nat) (h : k < l.length) (j : Nat) (hj : j < 5) : (entRow l)[k * 5 + j]? = (entCells l[k])[j]? := by
  conv => lhs; rw [← List.take_append_drop k l, List.drop_eq_getElem_cons h, entRow_append]
  have hl : (entRow (l.take k)).length = k * 5 := by rw [entRow_length, List.length_take, Nat.min_eq_left (by omega)]
  rw [List.getElem?_append_right (by omega), hl, Nat.add_sub_cancel_left]
  rw [show entRow (l[k] :: l.drop (k + 1)) = entCells l[k] ++ entRow (l.drop (k + 1)) from rfl, List.getElem?_append_left (by simp [entCells]; exact hj)]
theorem RdC.moreC {w : World} {B B' size m : Nat} {v : Value} {xs : List Value} (h : RdC w B size v m xs) (hB : B ≤ B') : RdC w B' size v m xs := by
  obtain ⟨A, c, hv, hl, hc, hx⟩ := h
  refine ⟨A, c, hv, hl, hc, fun h0 => ?_⟩
  obtain ⟨g, o, hA, hg, hcell⟩ := hx h0
  exact ⟨g, o, hA, by omega, hcell⟩
theorem RdI.slice {w : World} {B : Nat} {v : Value} {L : IdL} (h : RdI w B v L) : ∃ A c, v = .slice A L.length c := by
  obtain ⟨A, c, hv, _⟩ := h; exact ⟨A, c, hv⟩
theorem RdI.one {w : World} {B : Nat} {v : Value} {L : IdL} (h : RdI w B v L) : v.oneCell' = true := by
  obtain ⟨A, c, rfl⟩ := h.slice; rfl
theorem entRow_one {E : EntXL} {w : World} {B : Nat} (h : ∀ x ∈ E, RdI w B x.2 x.1.r.ids) : ∀ u ∈ entRow E, u.oneCell' = true := by
  intro u hu
  obtain ⟨x, hx, hu⟩ := List.mem_flatMap.1 hu
  simp only [entCells, List.mem_cons, List.not_mem_nil, or_false] at hu
  rcases hu with rfl | rfl | rfl | rfl | rfl
  · rfl
  · rfl
  · rfl
  · rfl
  · exact (h x hx).one
theorem entCells_one {x : EntX} {w : World} {B : Nat} (h : RdI w B x.2 x.1.r.ids) : ∀ u ∈ entCells x, u.oneCell' = true := by
  have := entRow_one (E := [x]) (w := w) (B := B) (fun y hy => by rw [List.mem_singleton.1 hy]; exact h)
  simpa [entRow] using this
/-- v is a slice that reads as these entries, below block B -/
def RdE (w : World) (B : Nat) (v : Value) (E : EntXL) : Prop := RdC w B 5 v E.length (entRow E) ∧ ∀ x ∈ E, RdI w B x.2 x.1.r.ids
theorem RdE.keep {w w' : World} {B B' : Nat} {v : Value} {E : EntXL} (h : RdE w B v E) (hb : Below B' w w') (h1 : B ≤ B') : RdE w' B v E := ⟨h.1.below (hb.mono h1), fun x hx => (h.2 x hx).keep hb h1⟩
theorem RdE.more {w : World} {B B' : Nat} {v : Value} {E : EntXL} (h : RdE w B v E) (hB : B ≤ B') : RdE w B' v E := ⟨h.1.moreC hB, fun x hx => (h.2 x hx).more hB⟩
theorem RdE.below {w w' : World} {v : Value} {E : EntXL} (h : RdE w w.heap.size v E) (hb : Below w.heap.size w w') : RdE w' w'.heap.size v E := (h.keep hb (Nat.le_refl _)).more hb.size
theorem RdE.nil (w : World) (B : Nat) : RdE w B (.slice none 0 0) [] := ⟨⟨none, 0, rfl, rfl, Nat.le_refl _, fun h => absurd h (by simp)⟩, fun _ h => absurd h List.not_mem_nil⟩
theorem RdE.form {w : World} {B : Nat} {v : Value} {E : EntXL} (h : RdE w B v E) : ∃ A c, v = .slice A E.length c ∧ E.length ≤ c ∧ (0 < E.length → ∃ g o, A = some ⟨g, o, none⟩ ∧ g < B ∧ ∀ k (hk : k < E.length),
    w.cell? ⟨g, o + k * 5, none⟩ = some (.int .i64 E[k].1.day) ∧ w.cell? ⟨g, o + k * 5 + 1, none⟩ = some (VT E[k].1.r.name) ∧ w.cell? ⟨g, o + k * 5 + 2, none⟩ = some (.int .i64 E[k].1.r.len) ∧
    w.cell? ⟨g, o + k * 5 + 3, none⟩ = some (.int .u32 (E[k].1.r.print : Int)) ∧ w.cell? ⟨g, o + k * 5 + 4, none⟩ = some E[k].2) := by
  obtain ⟨⟨A, c, hv, hl, hc, hx⟩, _⟩ := h
  refine ⟨A, c, hv, hc, fun h0 => ?_⟩
  obtain ⟨g, o, hA, hg, hcell⟩ := hx h0
  refine ⟨g, o, hA, hg, fun k hk => ?_⟩
  have at_ : ∀ j (hj : j < 5) u, (entCells E[k])[j]? = some u → w.cell? ⟨g, o + k * 5 + j, none⟩ = some u := fun j hj u hu => by
    have := hcell (k * 5 + j) u (by rw [entRow_at E k hk j hj]; exact hu)
    rw [Nat.add_assoc]; exact this
  exact ⟨at_ 0 (by decide) _ rfl, at_ 1 (by decide) _ rfl, at_ 2 (by decide) _ rfl, at_ 3 (by decide) _ rfl, at_ 4 (by decide) _ rfl⟩
/-- v reads as the trail l -/
def RdT (w : World) (B : Nat) (v : Value) (l : EntL) : Prop := ∃ E : EntXL, E.map (·.1) = l ∧ RdE w B v E
theorem RdT.keep {w w' : World} {B B' : Nat} {v : Value} {l : EntL} (h : RdT w B v l) (hb : Below B' w w') (h1 : B ≤ B') : RdT w' B v l := by obtain ⟨E, he, h⟩ := h; exact ⟨E, he, h.keep hb h1⟩
theorem RdT.more {w : World} {B B' : Nat} {v : Value} {l : EntL} (h : RdT w B v l) (hB : B ≤ B') : RdT w B' v l := by obtain ⟨E, he, h⟩ := h; exact ⟨E, he, h.more hB⟩
theorem RdT.below {w w' : World} {v : Value} {l : EntL} (h : RdT w w.heap.size v l) (hb : Below w.heap.size w w') : RdT w' w'.heap.size v l := (h.keep hb (Nat.le_refl _)).more hb.size
theorem RdT.nil (w : World) (B : Nat) : RdT w B (.slice none 0 0) [] := ⟨[], rfl, RdE.nil w B⟩
theorem RdT.form {w : World} {B : Nat} {v : Value} {l : EntL} (h : RdT w B v l) : ∃ A c, v = .slice A l.length c ∧ l.length ≤ c ∧ ∃ S : Nat → Value, (∀ k (hk : k < l.length), RdI w B (S k) l[k].r.ids) ∧ (0 < l.length → ∃ g o, A = some ⟨g, o, none⟩ ∧ g < B ∧ ∀ k (hk : k < l.length),
    w.cell? ⟨g, o + k * 5, none⟩ = some (.int .i64 l[k].day) ∧ w.cell? ⟨g, o + k * 5 + 1, none⟩ = some (VT l[k].r.name) ∧ w.cell? ⟨g, o + k * 5 + 2, none⟩ = some (.int .i64 l[k].r.len) ∧
    w.cell? ⟨g, o + k * 5 + 3, none⟩ = some (.int .u32 (l[k].r.print : Int)) ∧ w.cell? ⟨g, o + k * 5 + 4, none⟩ = some (S k)) := by
  obtain ⟨E, rfl, h⟩ := h
  obtain ⟨A, c, hv, hc, hx⟩ := h.form
  refine ⟨A, c, by simpa using hv, by simpa using hc, fun k => (E[k]?.map (·.2)).getD undef, fun k hk => ?_, fun h0 => ?_⟩
  · have hk' : k < E.length := by simpa using hk
    have := h.2 E[k] (List.getElem_mem hk')
    simpa [List.getElem?_eq_getElem hk'] using this
  · obtain ⟨g, o, hA, hg, hcell⟩ := hx (by simpa using h0)
    refine ⟨g, o, hA, hg, fun k hk => ?_⟩
    have hk' : k < E.length := by simpa using hk
    have := hcell k hk'
    simpa [List.getElem?_eq_getElem hk'] using this
/-! ### a row of the call's own -/
/-- the IDs do not lie in block g -/
def FarI (v : Value) (L : IdL) (g : Nat) : Prop := 0 < L.length → v.ownBlock ≠ some g
theorem RdI.keepG {w w' : World} {B : Nat} {r : Option Nat} {v : Value} {L : IdL} (h : RdI w B v L) (hg : w.grownBy w' r) (hB : B ≤ w.heap.size) (hf : ∀ g, r = some g → FarI v L g) : RdI w' B v L := by
  obtain ⟨A, c, hv, hl, hc, hx⟩ := h
  refine ⟨A, c, hv, hl, hc, fun h0 => ?_⟩
  obtain ⟨g, o, hA, hgB, hcell⟩ := hx h0
  refine ⟨g, o, hA, hgB, fun k u hu => (hg.cell_far ⟨g, o + k, none⟩ (Nat.lt_of_lt_of_le hgB hB) (fun e => ?_)).trans (hcell k u hu)⟩
  exact hf g e.symm h0 (by rw [hv, hA]; rfl)
theorem RdI.lt {w : World} {B g : Nat} {v : Value} {L : IdL} (h : RdI w B v L) (h0 : 0 < L.length) (e : v.ownBlock = some g) : g < B := by
  obtain ⟨A, c, hv, hl, hc, hx⟩ := h
  obtain ⟨b, o, hA, hg, _⟩ := hx h0
  rw [hv, hA] at e
  have : b = g := by simpa [Value.ownBlock] using e
  omega
theorem RdB.farB {w : World} {lo hi g : Nat} {v : Value} {L : IdL} (h : RdB w lo hi v L) (hg : g < lo) : FarI v L g := fun h0 e => by
  obtain ⟨A, c, hv, hc, hx⟩ := h
  obtain ⟨b, o, hA, hlo, _⟩ := hx h0
  rw [hv, hA] at e
  have : b = g := by simpa [Value.ownBlock] using e
  omega
/-- v is a row of the call's own (of type T, from base on) that holds the trail l -/
def OwT (w : World) (base : Nat) (T : TypeId) (v : Value) (l : EntL) : Prop :=
  ∃ E : EntXL, E.map (·.1) = l ∧ w.ownsRow base T 5 v E.length (entRow E) ∧ ∀ x ∈ E, RdI w w.heap.size x.2 x.1.r.ids ∧ ∀ g, v.ownBlock = some g → FarI x.2 x.1.r.ids g
theorem OwT.nil (w : World) (base : Nat) (T : TypeId) : OwT w base T (.slice none 0 0) [] := ⟨[], rfl, World.ownsRow_nil _ _ _ _, fun _ h => absurd h List.not_mem_nil⟩
theorem OwT.below {w w' : World} {base : Nat} {T : TypeId} {v : Value} {l : EntL} (h : OwT w base T v l) (hb : Below w.heap.size w w') : OwT w' base T v l := by
  obtain ⟨E, he, ho, hx⟩ := h
  exact ⟨E, he, own_belowI ho hb, fun x hm => ⟨((hx x hm).1.keep hb (Nat.le_refl _)).more hb.size, (hx x hm).2⟩⟩
theorem own_rdC {w : World} {base n size : Nat} {e : TypeId} {v : Value} {xs : List Value} (h : w.ownsRow base e size v n xs) : RdC w w.heap.size size v n xs := by
  rcases h.2 with ⟨rfl, h0⟩ | ⟨g, cap, cur, hv, hge, hh, hnc, _⟩
  · exact ⟨none, 0, by rw [h0], h.1, by omega, fun h => absurd h (by omega)⟩
  · refine ⟨_, cap, hv, h.1, hnc, fun _ => ⟨g, 0, rfl, (Array.getElem?_eq_some_iff.1 hh).1, fun k u hu => ?_⟩⟩
    have hk : k < n * size := by rw [← h.1]; exact (List.getElem?_eq_some_iff.1 hu).1
    subst hv
    rw [Nat.zero_add, h.cellAt k hk]; exact hu
theorem OwT.rd {w : World} {base : Nat} {T : TypeId} {v : Value} {l : EntL} (h : OwT w base T v l) : RdT w w.heap.size v l := by
  obtain ⟨E, he, ho, hx⟩ := h
  exact ⟨E, he, own_rdC ho, fun x hm => (hx x hm).1⟩
theorem OwT.slice {w : World} {base : Nat} {T : TypeId} {v : Value} {l : EntL} (h : OwT w base T v l) : ∃ A c, v = .slice A l.length c := by
  obtain ⟨E, rfl, ho, _⟩ := h
  have := own_formI ho
  simpa using this
/-- one entry more -/
theorem OwT.snoc {w w' : World} {base : Nat} {T : TypeId} {v v' : Value} {E : EntXL} (ho : w.ownsRow base T 5 v E.length (entRow E)) (hx : ∀ x ∈ E, RdI w w.heap.size x.2 x.1.r.ids ∧ ∀ g, v.ownBlock = some g → FarI x.2 x.1.r.ids g)
    {y : EntX} (hy : RdI w w.heap.size y.2 y.1.r.ids) (hyf : ∀ g, v.ownBlock = some g → FarI y.2 y.1.r.ids g) (ho' : w'.ownsRow base T 5 v' (E.length + 1) (entRow E ++ entCells y)) (hg : w.grownBy w' v.ownBlock)
    (hv' : v'.ownBlock = v.ownBlock ∨ v'.ownBlock = some w.heap.size) : OwT w' base T v' ((E ++ [y]).map (·.1)) := by
  refine ⟨E ++ [y], rfl, by rw [List.length_append, entRow_snoc]; exact ho', fun x hm => ?_⟩
  have hz : RdI w w.heap.size x.2 x.1.r.ids ∧ ∀ g, v.ownBlock = some g → FarI x.2 x.1.r.ids g := by
    rcases List.mem_append.1 hm with h | h
    · exact hx x h
    · rw [List.mem_singleton.1 h]; exact ⟨hy, hyf⟩
  refine ⟨(hz.1.keepG hg (Nat.le_refl _) hz.2).more hg.size, fun g e => ?_⟩
  rcases hv' with h1 | h1
  · exact hz.2 g (by rw [← h1]; exact e)
  · intro h0 e2
    have := hz.1.lt h0 e2
    rw [h1] at e
    injection e with e
    omega
/-! ### a box of an entry -/
structure Box5 (b : Nat) (x y z u t : Value) (w : World) : Prop where
  c0 : w.cell? ⟨b, 0, none⟩ = some x
  c1 : w.cell? ⟨b, 1, none⟩ = some y
  c2 : w.cell? ⟨b, 2, none⟩ = some z
  c3 : w.cell? ⟨b, 3, none⟩ = some u
  c4 : w.cell? ⟨b, 4, none⟩ = some t
  f : ∀ j, w.frozen? ⟨b, j, none⟩ = false
theorem Box5.lt {b : Nat} {x y z u t : Value} {w : World} (h : Box5 b x y z u t w) : b < w.heap.size := World.block_lt_of_cell? w _ h.c0
theorem Box5.below {b B : Nat} {x y z u t : Value} {w w' : World} (h : Box5 b x y z u t w) (hb : Below B w w') (hB : b < B) : Box5 b x y z u t w' :=
  ⟨(hb.cell (p := ⟨b, 0, none⟩) hB).trans h.c0, (hb.cell (p := ⟨b, 1, none⟩) hB).trans h.c1, (hb.cell (p := ⟨b, 2, none⟩) hB).trans h.c2, (hb.cell (p := ⟨b, 3, none⟩) hB).trans h.c3, (hb.cell (p := ⟨b, 4, none⟩) hB).trans h.c4, fun j => (hb.frozen (p := ⟨b, j, none⟩) hB).trans (h.f j)⟩
theorem Box5.mk' (w : World) (x y z u t : Value) (T : TypeId) : Box5 w.heap.size x y z u t (w.alloc (.cells #[x, y, z, u, t] T)) :=
  ⟨by rw [World.cell?_alloc_at _ _ _ _ rfl]; rfl, by rw [World.cell?_alloc_at _ _ _ _ rfl]; rfl, by rw [World.cell?_alloc_at _ _ _ _ rfl]; rfl, by rw [World.cell?_alloc_at _ _ _ _ rfl]; rfl, by rw [World.cell?_alloc_at _ _ _ _ rfl]; rfl, fun _ => World.frozen?_alloc_new _ _ _ _⟩
theorem Box5.set14 {b : Nat} {x y z u t : Value} {w : World} (h : Box5 b x y z u t w) (y' z' u' t' : Value) :
    Box5 b x y' z' u' t' ((((w.setCell ⟨b, 1, none⟩ y').setCell ⟨b, 2, none⟩ z').setCell ⟨b, 3, none⟩ u').setCell ⟨b, 4, none⟩ t') := by
  refine ⟨?_, ?_, ?_, ?_, ?_, fun j => by simp only [World.frozen?_setCell]; exact h.f j⟩
  · rw [cell_setI (by decide), cell_setI (by decide), cell_setI (by decide), cell_setI (by decide)]; exact h.c0
  · rw [cell_setI (by decide), cell_setI (by decide), cell_setI (by decide)]; exact World.cell?_setCell_same _ _ _ h.c1
  · rw [cell_setI (by decide), cell_setI (by decide)]; exact World.cell?_setCell_same _ _ _ (by rw [cell_setI (by decide)]; exact h.c2)
  · rw [cell_setI (by decide)]; exact World.cell?_setCell_same _ _ _ (by rw [cell_setI (by decide), cell_setI (by decide)]; exact h.c3)
  · exact World.cell?_setCell_same _ _ _ (by rw [cell_setI (by decide), cell_setI (by decide), cell_setI (by decide)]; exact h.c4)
theorem below_set14 {B b : Nat} {a w : World} (h : Below B a w) (hb : B ≤ b) (x y z u : Value) : Below B a ((((w.setCell ⟨b, 1, none⟩ x).setCell ⟨b, 2, none⟩ y).setCell ⟨b, 3, none⟩ z).setCell ⟨b, 4, none⟩ u) :=
  (((h.setCell (p := ⟨b, 1, none⟩) hb x).setCell (p := ⟨b, 2, none⟩) hb y).setCell (p := ⟨b, 3, none⟩) hb z).setCell (p := ⟨b, 4, none⟩) hb u
theorem cell_set14 (w : World) {b : Nat} (x y z u : Value) {p : Addr} (h : p.block ≠ b) : ((((w.setCell ⟨b, 1, none⟩ x).setCell ⟨b, 2, none⟩ y).setCell ⟨b, 3, none⟩ z).setCell ⟨b, 4, none⟩ u).cell? p = w.cell? p := by
  rw [World.cell?_setCell_other _ _ _ _ (by intro e; subst e; exact h rfl), World.cell?_setCell_other _ _ _ _ (by intro e; subst e; exact h rfl), World.cell?_setCell_other _ _ _ _ (by intro e; subst e; exact h rfl), World.cell?_setCell_other _ _ _ _ (by intro e; subst e; exact h rfl)]
theorem size_set14 (w : World) (b : Nat) (x y z u : Value) : ((((w.setCell ⟨b, 1, none⟩ x).setCell ⟨b, 2, none⟩ y).setCell ⟨b, 3, none⟩ z).setCell ⟨b, 4, none⟩ u).heap.size = w.heap.size := by simp [World.setCell]
/-- an entry's cells lie at an address -/
def NewE (w : World) (ad : Addr) (x : EntX) : Prop := ∀ j u, (entCells x)[j]? = some u → w.cell? (ad.add j) = some u
theorem NewE.mk' (w : World) (x : EntX) (T : TypeId) : NewE (w.alloc (.cells #[.int .i64 x.1.day, VT x.1.r.name, .int .i64 x.1.r.len, .int .u32 (x.1.r.print : Int), x.2] T)) ⟨w.heap.size, 0, none⟩ x := by
  intro j u hj
  rw [add_eqM, Nat.zero_add, World.cell?_alloc_at _ _ _ _ rfl]
  match j, hj with
  | 0, hj => exact hj
  | 1, hj => exact hj
  | 2, hj => exact hj
  | 3, hj => exact hj
  | 4, hj => exact hj
theorem NewE.below {w w' : World} {b o : Nat} {x : EntX} {B : Nat} (h : NewE w ⟨b, o, none⟩ x) (hb : Below B w w') (hB : b < B) : NewE w' ⟨b, o, none⟩ x := fun j u hj => by
  have := h j u hj
  rw [add_eqM] at this ⊢
  exact (hb.cell (p := ⟨b, o + j, none⟩) hB).trans this
end Go.Proofs.YtbokckjlgjnnjaaGreatDoor

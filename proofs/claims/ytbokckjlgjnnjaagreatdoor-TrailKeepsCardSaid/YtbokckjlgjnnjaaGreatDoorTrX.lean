/- Trails: a fault's box in memory, and what stands when it is written; bounds out of longTrail. No conditions. -/
import Derived.Test.YtbokckjlgjnnjaaGreatDoorTrQ
import Derived.Test.YtbokckjlgjnnjaaGreatDoorOpenR
namespace Go.Proofs.YtbokckjlgjnnjaaGreatDoor
open Go.RowKit Go.Lib

/-- a fault's box -/
def FB (b : Nat) (F : Int × Int) (w : World) : Prop := w.heap[b]? = some (.cells #[.int .i64 F.1, .int .i64 F.2] 49 (0, 0))
theorem FB.new (w : World) (F : Int × Int) : FB w.heap.size F (w.alloc (.cells #[.int .i64 F.1, .int .i64 F.2] 49)) := heap_alloc_new w _
theorem FB.lt {b : Nat} {F : Int × Int} {w : World} (h : FB b F w) : b < w.heap.size := (Array.getElem?_eq_some_iff.1 h).1
theorem FB.below {b : Nat} {F : Int × Int} {w w' : World} (h : FB b F w) (hb : Below w.heap.size w w') : FB b F w' := (hb.block b h.lt).trans h
theorem FB.cell {b : Nat} {F : Int × Int} {w : World} (h : FB b F w) (j : Nat) : w.cell? ⟨b, j, none⟩ = #[Value.int .i64 F.1, .int .i64 F.2][j]? := cell_of_row w b j _ _ _ h
theorem FB.box {b : Nat} {F : Int × Int} {w : World} (h : FB b F w) : w.cell? ⟨b, 0, none⟩ = some (.int .i64 F.1) ∧ w.cell? ⟨b, 1, none⟩ = some (.int .i64 F.2) ∧ w.frozen? ⟨b, 0, none⟩ = false ∧ w.frozen? ⟨b, 1, none⟩ = false := by
  refine ⟨h.cell 0, h.cell 1, ?_, ?_⟩ <;> (unfold FB at h; simp [World.frozen?, h])
theorem FB.only {b j : Nat} {F : Int × Int} {w : World} (h : FB b F w) {v : Value} (hc : w.cell? ⟨b, j, none⟩ = some v) : ∃ i, v = .int .i64 i := by
  rw [h.cell j] at hc
  match j, hc with
  | 0, hc => simp at hc; exact ⟨_, hc.symm⟩
  | 1, hc => simp at hc; exact ⟨_, hc.symm⟩
  | n + 2, hc => simp at hc
theorem FB.set {b : Nat} {F : Int × Int} {w : World} (h : FB b F w) (x y : Int) : FB b (x, y) ((w.setCell ⟨b, 0, none⟩ (.int .i64 x)).setCell ⟨b, 1, none⟩ (.int .i64 y)) := by
  unfold FB at h ⊢
  simp [World.setCell, Array.getElem?_modify, h]
section
variable {b : Nat} {F : Int × Int} {w : World} (h : FB b F w) (x y : Int)
theorem FB.far {p : Addr} (hp : p.block ≠ b) : ((w.setCell ⟨b, 0, none⟩ (.int .i64 x)).setCell ⟨b, 1, none⟩ (.int .i64 y)).cell? p = w.cell? p := cell_set2 w _ _ hp
include h in
theorem FB.keep {p : Addr} {v : Value} (hs : p.spot = none) (hc : w.cell? p = some v) (hv : ∀ i, v ≠ .int .i64 i) : ((w.setCell ⟨b, 0, none⟩ (.int .i64 x)).setCell ⟨b, 1, none⟩ (.int .i64 y)).cell? p = some v := by
  refine (FB.far x y (fun e => ?_)).trans hc
  obtain ⟨g, o, s⟩ := p
  simp only at hs e
  subst hs; subst e
  obtain ⟨i, hi⟩ := h.only hc
  exact hv i hi
end
theorem ev_setFB {a : Nat → Addr} {v : Value} {c t : Int} {b : Nat} {F : Int × Int} {w : World} (he : EV a v c t w) (h : FB b F w) (x y : Int) : EV a v c t ((w.setCell ⟨b, 0, none⟩ (.int .i64 x)).setCell ⟨b, 1, none⟩ (.int .i64 y)) := by
  rcases he with he | he | ⟨k, g, o, hk, h1, h2, h3, h4⟩
  · exact .inl he
  · exact .inr (.inl he)
  · have hne : g ≠ b := fun e => by
      subst e
      obtain ⟨i, hi⟩ := h.only h4
      unfold sval at hi; cases hi
    exact .inr (.inr ⟨k, g, o, hk, h1, h2, (FB.far x y hne).trans h3, (FB.far x y hne).trans h4⟩)
theorem rdI_setFB {b B : Nat} {F : Int × Int} {v : Value} {L : IdL} {w : World} (hr : RdI w B v L) (h : FB b F w) (x y : Int) : RdI ((w.setCell ⟨b, 0, none⟩ (.int .i64 x)).setCell ⟨b, 1, none⟩ (.int .i64 y)) B v L := by
  obtain ⟨A, c, hv, hl, hc, hx⟩ := hr
  refine ⟨A, c, hv, hl, hc, fun h0 => ?_⟩
  obtain ⟨g, o, hA, hgB, hcell⟩ := hx h0
  have hne : g ≠ b := fun e => by
    subst e
    have h1 := hcell 0 (.int .u32 (L[0].1 : Int)) (by have := idRow_at L 0 h0 0 (by decide); simpa [idCells] using this)
    obtain ⟨i, hi⟩ := h.only h1
    cases hi
  exact ⟨g, o, hA, hgB, fun k u hu => (FB.far x y hne).trans (hcell k u hu)⟩
theorem rdT_setFB {b B : Nat} {F : Int × Int} {v : Value} {l : EntL} {w : World} (hr : RdT w B v l) (h : FB b F w) (x y : Int) : RdT ((w.setCell ⟨b, 0, none⟩ (.int .i64 x)).setCell ⟨b, 1, none⟩ (.int .i64 y)) B v l := by
  obtain ⟨E, he, ⟨A, c, hv, hl, hc, hx⟩, hi⟩ := hr
  refine ⟨E, he, ⟨A, c, hv, hl, hc, fun h0 => ?_⟩, fun z hz => rdI_setFB (hi z hz) h x y⟩
  obtain ⟨g, o, hA, hgB, hcell⟩ := hx h0
  have hne : g ≠ b := fun e => by
    subst e
    have h1 := hcell 1 (VT E[0].1.r.name) (by have := entRow_at E 0 h0 1 (by decide); simpa [entCells] using this)
    obtain ⟨i, hi⟩ := h.only h1
    cases hi
  exact ⟨g, o, hA, hgB, fun k u hu => (FB.far x y hne).trans (hcell k u hu)⟩
theorem below_setFB {B b : Nat} {w0 w : World} (h : Below B w0 w) (hb : B ≤ b) (x y : Int) : Below B w0 ((w.setCell ⟨b, 0, none⟩ (.int .i64 x)).setCell ⟨b, 1, none⟩ (.int .i64 y)) := below_set2 h hb _ _
theorem longR_zeroT {r : Rcp} (h : ¬ 0 < longR r) : r.name.length ≤ 30 ∧ r.ids.length ≤ 251 := by
  unfold longR at h
  by_cases h1 : 30 < r.name.length ∨ (60 < r.ids.length ∧ r.ids.length ≠ 251)
  · rw [if_pos h1] at h; omega
  · omega
theorem longT_short {l : EntL} (h : longT l = false) : l.length ≤ 41 ∧ ∀ e ∈ l, ¬ 0 < longR e.r := by
  unfold longT at h
  rw [Bool.or_eq_false_iff, decide_eq_false_iff_not] at h
  refine ⟨by omega, fun e he => ?_⟩
  have := List.any_eq_false.1 h.2 e he
  simpa using this
theorem faulted_same (a : Nat → Addr) (v : Value) (F : Int × Int) (w : World) (h : Sents a w) (he : EV a v F.1 F.2 w) :
    Calls Tryz.prog 17 #[v, fltV F] w fun e w' => e = .returned (.bool true) ∧ Below w.heap.size w w' :=
  (faulted3_any a v F.1 F.2 F.1 F.2 w h (he.toErrV h)).mono fun e w' ⟨h1, h2⟩ => ⟨by rw [h1]; simp [faultedB], h2⟩
/-- an entry's numbers are Go's own -/
structure EntO (e : Ent) : Prop where
  d0 : -9223372036854775808 ≤ e.day
  d1 : e.day ≤ 9223372036854775807
  r : RcpO e.r
theorem RcpO.toB {r : Rcp} (h : RcpO r) (h2 : ¬ 0 < longR r) : RcpB r := ⟨by have := (longR_zeroT h2).1; omega, h.l0, h.l1, h.p, by have := (longR_zeroT h2).2; omega, h.i⟩
end Go.Proofs.YtbokckjlgjnnjaaGreatDoor

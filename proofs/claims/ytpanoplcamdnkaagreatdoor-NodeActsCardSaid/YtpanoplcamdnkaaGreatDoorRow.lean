/- Rows of the call's own whose elements have a slice each (recipes, loads): what they hold, one element more. No conditions. -/
import Derived.Test.YtpanoplcamdnkaaGreatDoorScM
namespace Go.Proofs.YtpanoplcamdnkaaGreatDoor
open Go.RowKit Go.Lib

/-- a kind of elements: their cells, what is read through their slice -/
structure RowK (α : Type) where
  n : Nat
  cells : α → Value → List Value
  len : ∀ a v, (cells a v).length = n
  m : α → Nat
  rd : World → Nat → α → Value → Prop
  one : ∀ {w B a v}, rd w B a v → ∀ u ∈ cells a v, u.oneCell' = true
  keep : ∀ {w w' B B' a v}, rd w B a v → Below B' w w' → B ≤ B' → rd w' B a v
  more : ∀ {w B B' a v}, rd w B a v → B ≤ B' → rd w B' a v
  far : ∀ {w w' r B a v}, rd w B a v → w.grownBy w' r → B ≤ w.heap.size → (∀ g, r = some g → 0 < m a → v.ownBlock ≠ some g) → rd w' B a v
  lt : ∀ {w B g a v}, rd w B a v → 0 < m a → v.ownBlock = some g → g < B
theorem RdC.farR {w w' : World} {r : Option Nat} {B size m : Nat} {v : Value} {xs : List Value} (h : RdC w B size v m xs) (hg : w.grownBy w' r) (hB : B ≤ w.heap.size) (hf : ∀ g, r = some g → 0 < m → v.ownBlock ≠ some g) : RdC w' B size v m xs := by
  obtain ⟨A, c, hv, hl, hc, hx⟩ := h
  refine ⟨A, c, hv, hl, hc, fun h0 => ?_⟩
  obtain ⟨g, o, hA, hgB, hcell⟩ := hx h0
  refine ⟨g, o, hA, hgB, fun k u hu => (hg.cell_far ⟨g, o + k, none⟩ (Nat.lt_of_lt_of_le hgB hB) (fun e => ?_)).trans (hcell k u hu)⟩
  exact hf g e.symm h0 (by rw [hv, hA]; rfl)
theorem RdC.ltR {w : World} {B g size m : Nat} {v : Value} {xs : List Value} (h : RdC w B size v m xs) (h0 : 0 < m) (e : v.ownBlock = some g) : g < B := by
  obtain ⟨A, c, hv, hl, hc, hx⟩ := h
  obtain ⟨b, o, hA, hg, _⟩ := hx h0
  rw [hv, hA] at e
  have : b = g := by simpa [Value.ownBlock] using e
  omega
theorem RdC.oneR {w : World} {B size m : Nat} {v : Value} {xs : List Value} (h : RdC w B size v m xs) : v.oneCell' = true := by
  obtain ⟨A, c, rfl, _⟩ := h; rfl
def rcK : RowK Rcp where
  n := 4
  cells := fun r sl => [VT r.name, .int .i64 r.len, .int .u32 (r.print : Int), sl]
  len := fun _ _ => rfl
  m := fun r => r.ids.length
  rd := fun w B r sl => RdI w B sl r.ids
  one := fun {w B a v} h u hu => by
    simp only [List.mem_cons, List.not_mem_nil, or_false] at hu
    rcases hu with rfl | rfl | rfl | rfl
    · rfl
    · rfl
    · rfl
    · exact RdC.oneR h
  keep := fun h hb h1 => RdI.keep h hb h1
  more := fun h hB => RdI.more h hB
  far := fun h hg hB hf => RdC.farR h hg hB hf
  lt := fun h h0 e => RdC.ltR h h0 e
def ldK : RowK Load where
  n := 3
  cells := fun y sl => [.int .u32 (y.rep.1 : Int), .int .i64 y.rep.2, sl]
  len := fun _ _ => rfl
  m := fun y => y.l.length
  rd := fun w B y sl => RdL w B sl y.l
  one := fun {w B a v} h u hu => by
    simp only [List.mem_cons, List.not_mem_nil, or_false] at hu
    rcases hu with rfl | rfl | rfl
    · rfl
    · rfl
    · exact RdC.oneR h
  keep := fun h hb h1 => RdL.keep h hb h1
  more := fun h hB => RdL.more h hB
  far := fun h hg hB hf => RdC.farR h hg hB hf
  lt := fun h h0 e => RdC.ltR h h0 e
section
variable {α : Type} (K : RowK α)
def RowK.row (E : List (α × Value)) : List Value := E.flatMap fun x => K.cells x.1 x.2
theorem RowK.row_length (E : List (α × Value)) : (K.row E).length = E.length * K.n := by
  induction E with
  | nil => simp [RowK.row]
  | cons o l ih => rw [show K.row (o :: l) = K.cells o.1 o.2 ++ K.row l from rfl, List.length_append, ih, K.len, List.length_cons, Nat.succ_mul]; omega
theorem RowK.row_append (a b : List (α × Value)) : K.row (a ++ b) = K.row a ++ K.row b := List.flatMap_append
theorem RowK.row_at (l : List (α × Value)) (k : Nat) (h : k < l.length) (j : Nat) (hj : j < K.n) : (K.row l)[k * K.n + j]? = (K.cells l[k].1 l[k].2)[j]? := by
  conv => lhs; rw [← List.take_append_drop k l, List.drop_eq_getElem_cons h, RowK.row_append]
  have hl : (K.row (l.take k)).length = k * K.n := by rw [RowK.row_length, List.length_take, Nat.min_eq_left (by omega)]
  rw [List.getElem?_append_right (by omega), hl, Nat.add_sub_cancel_left]
  rw [show K.row (l[k] :: l.drop (k + 1)) = K.cells l[k].1 l[k].2 ++ K.row (l.drop (k + 1)) from rfl, List.getElem?_append_left (by rw [K.len]; exact hj)]
/-- v is a row of the call's own (of type T, from base on) that holds these -/
def OwX (w : World) (base : Nat) (T : TypeId) (v : Value) (l : List α) : Prop :=
  ∃ E : List (α × Value), E.map (·.1) = l ∧ w.ownsRow base T K.n v E.length (K.row E) ∧ ∀ x ∈ E, K.rd w w.heap.size x.1 x.2 ∧ ∀ g, v.ownBlock = some g → 0 < K.m x.1 → x.2.ownBlock ≠ some g
variable {K}
theorem OwX.nil (w : World) (base : Nat) (T : TypeId) : OwX K w base T (.slice none 0 0) [] := ⟨[], rfl, World.ownsRow_nil _ _ _ _, fun _ h => absurd h List.not_mem_nil⟩
theorem OwX.below {w w' : World} {base : Nat} {T : TypeId} {v : Value} {l : List α} (h : OwX K w base T v l) (hb : Below w.heap.size w w') : OwX K w' base T v l := by
  obtain ⟨E, he, ho, hx⟩ := h
  exact ⟨E, he, own_belowI ho hb, fun x hm => ⟨K.more (K.keep (hx x hm).1 hb (Nat.le_refl _)) hb.size, (hx x hm).2⟩⟩
theorem OwX.slice {w : World} {base : Nat} {T : TypeId} {v : Value} {l : List α} (h : OwX K w base T v l) : ∃ A c, v = .slice A l.length c := by
  obtain ⟨E, rfl, ho, _⟩ := h
  have := own_formI ho
  simpa using this
theorem OwX.ge {w : World} {base g : Nat} {T : TypeId} {v : Value} {l : List α} (h : OwX K w base T v l) (e : v.ownBlock = some g) : base ≤ g := by
  obtain ⟨E, rfl, ho, _⟩ := h
  exact own_ge ho e
theorem OwX.own {w : World} {base : Nat} {T : TypeId} {v : Value} {l : List α} (h : OwX K w base T v l) : ∃ xs, w.ownsRow base T K.n v l.length xs := by
  obtain ⟨E, rfl, ho, _⟩ := h
  exact ⟨_, by rw [List.length_map]; exact ho⟩
theorem OwX.form {w : World} {base : Nat} {T : TypeId} {v : Value} {l : List α} (h : OwX K w base T v l) : ∃ A c, v = .slice A l.length c ∧ l.length ≤ c ∧ (0 < l.length → ∃ g, A = some ⟨g, 0, none⟩ ∧ base ≤ g ∧ g < w.heap.size ∧ ∀ k (hk : k < l.length), ∃ sl, K.rd w w.heap.size l[k] sl ∧
    ∀ j u, j < K.n → (K.cells l[k] sl)[j]? = some u → w.cell? ⟨g, k * K.n + j, none⟩ = some u) := by
  obtain ⟨E, rfl, ho, hx⟩ := h
  rcases ho.2 with ⟨rfl, h0⟩ | ⟨g, cap, cur, hv, hge, hh, hnc, _⟩
  · exact ⟨none, 0, by rw [List.length_map, h0], by rw [List.length_map]; omega, fun h => absurd h (by rw [List.length_map]; omega)⟩
  · refine ⟨_, cap, by rw [List.length_map]; exact hv, by rw [List.length_map]; exact hnc, fun _ => ⟨g, rfl, hge, (Array.getElem?_eq_some_iff.1 hh).1, fun k hk => ?_⟩⟩
    have hk' : k < E.length := by simpa using hk
    refine ⟨E[k].2, by rw [List.getElem_map]; exact (hx _ (List.getElem_mem hk')).1, fun j u hj hu => ?_⟩
    rw [List.getElem_map] at hu
    have hkn : k * K.n + j < E.length * K.n := by
      have := Nat.mul_le_mul_right K.n (show k + 1 ≤ E.length from hk')
      rw [Nat.succ_mul] at this
      omega
    subst hv
    rw [ho.cellAt (k * K.n + j) hkn, K.row_at E k hk' j hj]; exact hu
end
/-- such a row of recipes is read -/
theorem OwX.rs {w : World} {base : Nat} {T : TypeId} {v : Value} {l : List Rcp} (h : OwX rcK w base T v l) : RsRd w w.heap.size v l := by
  obtain ⟨A, c, hv, hc, hx⟩ := h.form
  refine ⟨A, c, hv, hc, fun h0 => ?_⟩
  obtain ⟨g, hA, _, hg, hcell⟩ := hx h0
  refine ⟨g, 0, hA, hg, fun k hk => ?_⟩
  obtain ⟨sl, hsl, hcs⟩ := hcell k hk
  refine ⟨sl, hsl, ?_, ?_, ?_, ?_⟩
  · have := hcs 0 _ (by decide) rfl
    simpa [rcK] using this
  · have := hcs 1 _ (by decide) rfl
    simpa [rcK] using this
  · have := hcs 2 _ (by decide) rfl
    simpa [rcK] using this
  · have := hcs 3 _ (by decide) rfl
    simpa [rcK] using this
/-- such a row of loads is read -/
theorem OwX.ls {w : World} {base : Nat} {T : TypeId} {v : Value} {l : List Load} (h : OwX ldK w base T v l) : LdRd w w.heap.size v l := by
  obtain ⟨A, c, hv, hc, hx⟩ := h.form
  refine ⟨A, c, hv, hc, fun h0 => ?_⟩
  obtain ⟨g, hA, _, hg, hcell⟩ := hx h0
  refine ⟨g, 0, hA, hg, fun k hk => ?_⟩
  obtain ⟨sl, hsl, hcs⟩ := hcell k hk
  refine ⟨sl, hsl, ?_, ?_, ?_⟩
  · have := hcs 0 _ (by decide) rfl
    simpa [ldK] using this
  · have := hcs 1 _ (by decide) rfl
    simpa [ldK] using this
  · have := hcs 2 _ (by decide) rfl
    simpa [ldK] using this
theorem info_rcp : (Tryz.prog.info? 65).map (fun i => (i.zero, i.size, i.bytes)) = some (some (.agg #[.string ByteArray.empty, .int .i64 0, .int .u32 0, .slice none 0 0]), 4, 56) := by kernel_rfl
theorem cells_new4 (w : World) (a b c d : Value) (t : TypeId) : ∀ j u, [a, b, c, d][j]? = some u → (w.alloc (.cells #[a, b, c, d] t)).cell? ((⟨w.heap.size, 0, none⟩ : Addr).add j) = some u := by
  intro j u h
  rw [add_eqM, Nat.zero_add, World.cell?_alloc_at _ _ _ _ rfl]
  match j, h with
  | 0, h => exact h
  | 1, h => exact h
  | 2, h => exact h
  | 3, h => exact h
theorem cells_new3 (w : World) (a b c : Value) (t : TypeId) : ∀ j u, [a, b, c][j]? = some u → (w.alloc (.cells #[a, b, c] t)).cell? ((⟨w.heap.size, 0, none⟩ : Addr).add j) = some u := by
  intro j u h
  rw [add_eqM, Nat.zero_add, World.cell?_alloc_at _ _ _ _ rfl]
  match j, h with
  | 0, h => exact h
  | 1, h => exact h
  | 2, h => exact h
end Go.Proofs.YtpanoplcamdnkaaGreatDoor

/- Pieces of a bin in memory: rows of them, slices of them that are read; walk of SameHelds at two of one content. No conditions but bounds. -/
import Derived.Test.YtpanoplcamdnkaaGreatDoorBin1
import Derived.Test.YtpanoplcamdnkaaGreatDoorIds1
import Derived.Deep.LoopGhost
namespace Go.Proofs.YtpanoplcamdnkaaGreatDoor
open Go.RowKit Go.Lib

theorem idq_eqs {x y : Idn} (h : x = y) : ((x.1 : Int) == (y.1 : Int)) = true ∧ (x.2 == y.2) = true := by subst h; simp
theorem idq_ne {x y : Idn} (h : ¬ x = y) : ((x.1 : Int) == (y.1 : Int)) = false ∨ (((x.1 : Int) == (y.1 : Int)) = true ∧ (x.2 == y.2) = false) := by
  by_cases h1 : x.1 = y.1
  · refine .inr ⟨by simp [h1], ?_⟩
    rw [beq_eq_false_iff_ne]
    exact fun e => h (Prod.ext h1 e)
  · refine .inl ?_
    rw [beq_eq_false_iff_ne]; omega
instance : Inhabited Hld := ⟨hldZ⟩
theorem cell_newH (w : World) (x y z u : Value) (t : TypeId) : ∀ j q, [x, y, z, u][j]? = some q → (w.alloc (.cells #[x, y, z, u] t)).cell? ((⟨w.heap.size, 0, none⟩ : Addr).add j) = some q := by
  intro j q hj
  rw [add_eqM, Nat.zero_add, World.cell?_alloc_at _ _ _ _ rfl]
  match j, hj with
  | 0, hj => exact hj
  | 1, hj => exact hj
  | 2, hj => exact hj
  | 3, hj => exact hj
  | j + 4, hj => simp at hj
theorem info_held : (Tryz.prog.info? 82).map (fun i => (i.zero, i.size, i.bytes)) = some (some (.agg #[.int .u32 0, .int .i64 0, .int .i64 0, .string ByteArray.empty]), 4, 40) := by kernel_rfl
theorem own_lower {w : World} {base base' n size : Nat} {e : TypeId} {v : Value} {xs : List Value} (h : w.ownsRow base e size v n xs) (hb : base' ≤ base) : w.ownsRow base' e size v n xs := by
  refine ⟨h.1, ?_⟩
  rcases h.2 with h | ⟨g, cap, cur, hv, hg, h3⟩
  · exact .inl h
  · exact .inr ⟨g, cap, cur, hv, Nat.le_trans hb hg, h3⟩
def hldRow (L : HldL) : List Value := L.flatMap hldC
theorem hldRow_length (L : HldL) : (hldRow L).length = L.length * 4 := by
  induction L with
  | nil => rfl
  | cons o l ih => rw [show hldRow (o :: l) = hldC o ++ hldRow l from rfl, List.length_append, ih, show (hldC o).length = 4 from rfl, List.length_cons]; omega
theorem hldRow_append (a b : HldL) : hldRow (a ++ b) = hldRow a ++ hldRow b := List.flatMap_append
theorem hldRow_at (l : HldL) (k : Nat) (h : k < l.length) (j : Nat) (hj : j < 4) : (hldRow l)[k * 4 + j]? = (hldC l[k])[j]? := by
  conv => lhs; rw [← List.take_append_drop k l, List.drop_eq_getElem_cons h, hldRow_append]
  have hl : (hldRow (l.take k)).length = k * 4 := by rw [hldRow_length, List.length_take, Nat.min_eq_left (by omega)]
  rw [List.getElem?_append_right (by omega), hl, Nat.add_sub_cancel_left]
  rw [show hldRow (l[k] :: l.drop (k + 1)) = hldC l[k] ++ hldRow (l.drop (k + 1)) from rfl, List.getElem?_append_left (by simp [hldC]; exact hj)]
theorem hldRow_snoc (L : HldL) (x : Hld) : hldRow (L ++ [x]) = hldRow L ++ hldC x := by rw [hldRow_append]; simp [hldRow]
theorem hldRow_take (L : HldL) (k : Nat) : (hldRow L).take (k * 4) = hldRow (L.take k) := by
  induction L generalizing k with
  | nil => simp [hldRow]
  | cons x r ih =>
    cases k with
    | zero => simp [hldRow]
    | succ k =>
      show (hldC x ++ hldRow r).take ((k + 1) * 4) = hldC x ++ hldRow (r.take k)
      rw [← ih, show (k + 1) * 4 = (hldC x).length + k * 4 by simp [hldC]; omega, List.take_length_add_append]
theorem hldRow_drop (L : HldL) (k : Nat) : (hldRow L).drop (k * 4) = hldRow (L.drop k) := by
  induction L generalizing k with
  | nil => simp [hldRow]
  | cons x r ih =>
    cases k with
    | zero => simp [hldRow]
    | succ k =>
      show (hldC x ++ hldRow r).drop ((k + 1) * 4) = hldRow (r.drop k)
      rw [← ih, show (k + 1) * 4 = (hldC x).length + k * 4 by simp [hldC]; omega, List.drop_length_add_append]
theorem hldRow_one (L : HldL) : ∀ u ∈ hldRow L, u.oneCell' = true := by
  intro u hu
  obtain ⟨x, _, hx⟩ := List.mem_flatMap.1 hu
  simp only [hldC, List.mem_cons, List.not_mem_nil, or_false] at hx
  rcases hx with rfl | rfl | rfl | rfl <;> rfl
theorem below_grownP {base n size : Nat} {e : TypeId} {w0 w w' : World} {v : Value} {xs : List Value} (hB : Below base w0 w) (hb : base ≤ w.heap.size) (h : w.ownsRow base e size v n xs) (hg : w.grownBy w' v.ownBlock) : Below base w0 w' :=
  hB.grown hg hb (fun b he => own_ge h he)
theorem RdC.ownP {w : World} {base n size : Nat} {e : TypeId} {v : Value} {xs : List Value} (h : w.ownsRow base e size v n xs) : RdC w w.heap.size size v n xs := by
  rcases h.2 with ⟨rfl, rfl⟩ | ⟨g, cap, cur, hv, _, hh, hnc, _⟩
  · exact ⟨none, 0, rfl, h.1, Nat.le_refl _, fun h => absurd h (Nat.lt_irrefl _)⟩
  · refine ⟨_, cap, hv, h.1, hnc, fun _ => ⟨g, 0, rfl, (Array.getElem?_eq_some_iff.1 hh).1, fun k u hu => ?_⟩⟩
    subst hv
    have hk : k < n * size := by rw [← h.1]; exact (List.getElem?_eq_some_iff.1 hu).1
    rw [Nat.zero_add, h.cellAt k hk]; exact hu
theorem RdC.nilP (w : World) (B size : Nat) (A : Option Addr) (c : Nat) : RdC w B size (.slice A 0 c) 0 [] := ⟨A, c, rfl, by simp, Nat.zero_le _, fun h => absurd h (Nat.lt_irrefl _)⟩
/-- a slice of what is held, as it is read -/
def RdH (w : World) (B : Nat) (A : Option Addr) (L : HldL) : Prop := 0 < L.length → ∃ g, A = some ⟨g, 0, none⟩ ∧ g < B ∧ ∀ k (hk : k < L.length),
    w.cell? ⟨g, k * 4, none⟩ = some (.int .u32 (L[k].id.1 : Int)) ∧ w.cell? ⟨g, k * 4 + 1, none⟩ = some (.int .i64 L[k].id.2) ∧ w.cell? ⟨g, k * 4 + 2, none⟩ = some (.int .i64 L[k].uses) ∧ w.cell? ⟨g, k * 4 + 3, none⟩ = some (.string (bs L[k].text))
theorem own_rdH {w : World} {base : Nat} {v : Value} {L : HldL} (h : w.ownsRow base 82 4 v L.length (hldRow L)) : ∃ A c, v = .slice A L.length c ∧ RdH w w.heap.size A L := by
  rcases h.2 with ⟨h1, h0⟩ | ⟨g, cap, cur, h1, _, hh, _⟩
  · exact ⟨none, 0, by rw [h1, h0], fun h => absurd h (by omega)⟩
  · refine ⟨_, cap, h1, fun _ => ⟨g, rfl, (Array.getElem?_eq_some_iff.1 hh).1, fun k hk => ?_⟩⟩
    have ho := h
    rw [h1] at ho
    have c0 := ho.cellAt (k * 4 + 0) (by omega)
    have c1 := ho.cellAt (k * 4 + 1) (by omega)
    have c2 := ho.cellAt (k * 4 + 2) (by omega)
    have c3 := ho.cellAt (k * 4 + 3) (by omega)
    rw [hldRow_at L k hk _ (by decide)] at c0 c1 c2 c3
    exact ⟨c0, c1, c2, c3⟩
theorem RdH.below {w w' : World} {B : Nat} {A : Option Addr} {L : HldL} (h : RdH w B A L) (hb : Below B w w') : RdH w' B A L := fun h0 => by
  obtain ⟨g, hA, hg, hc⟩ := h h0
  exact ⟨g, hA, hg, fun k hk => by
    obtain ⟨c0, c1, c2, c3⟩ := hc k hk
    exact ⟨(hb.cell (p := ⟨g, k * 4, none⟩) hg).trans c0, (hb.cell (p := ⟨g, k * 4 + 1, none⟩) hg).trans c1, (hb.cell (p := ⟨g, k * 4 + 2, none⟩) hg).trans c2, (hb.cell (p := ⟨g, k * 4 + 3, none⟩) hg).trans c3⟩⟩
def RdH2 (w : World) (B : Nat) (v : Value) (L : HldL) : Prop := ∃ A c, v = .slice A L.length c ∧ L.length ≤ c ∧ (0 < L.length → ∃ g o, A = some ⟨g, o, none⟩ ∧ g < B ∧ ∀ k (hk : k < L.length),
    w.cell? ⟨g, o + k * 4, none⟩ = some (.int .u32 (L[k].id.1 : Int)) ∧ w.cell? ⟨g, o + k * 4 + 1, none⟩ = some (.int .i64 L[k].id.2) ∧ w.cell? ⟨g, o + k * 4 + 2, none⟩ = some (.int .i64 L[k].uses) ∧ w.cell? ⟨g, o + k * 4 + 3, none⟩ = some (.string (bs L[k].text)))
theorem own_rdH2 {w : World} {base : Nat} {v : Value} {L : HldL} (h : w.ownsRow base 82 4 v L.length (hldRow L)) : RdH2 w w.heap.size v L := by
  rcases h.2 with ⟨h1, h0⟩ | ⟨g, cap, cur, h1, _, hh, hnc, _⟩
  · exact ⟨none, 0, by rw [h1, h0], by omega, fun h => absurd h (by omega)⟩
  · refine ⟨_, cap, h1, hnc, fun _ => ⟨g, 0, rfl, (Array.getElem?_eq_some_iff.1 hh).1, fun k hk => ?_⟩⟩
    have ho := h
    rw [h1] at ho
    have c0 := ho.cellAt (k * 4 + 0) (by omega)
    have c1 := ho.cellAt (k * 4 + 1) (by omega)
    have c2 := ho.cellAt (k * 4 + 2) (by omega)
    have c3 := ho.cellAt (k * 4 + 3) (by omega)
    rw [hldRow_at L k hk _ (by decide)] at c0 c1 c2 c3
    simp only [Nat.zero_add]
    exact ⟨c0, c1, c2, c3⟩
theorem RdH2.below {w w' : World} {B : Nat} {v : Value} {L : HldL} (h : RdH2 w B v L) (hb : Below B w w') : RdH2 w' B v L := by
  obtain ⟨A, c, hv, hc, hx⟩ := h
  refine ⟨A, c, hv, hc, fun h0 => ?_⟩
  obtain ⟨g, o, hA, hg, hcell⟩ := hx h0
  exact ⟨g, o, hA, hg, fun k hk => by
    obtain ⟨c0, c1, c2, c3⟩ := hcell k hk
    exact ⟨(hb.cell (p := ⟨g, o + k * 4, none⟩) hg).trans c0, (hb.cell (p := ⟨g, o + k * 4 + 1, none⟩) hg).trans c1, (hb.cell (p := ⟨g, o + k * 4 + 2, none⟩) hg).trans c2, (hb.cell (p := ⟨g, o + k * 4 + 3, none⟩) hg).trans c3⟩⟩
theorem RdH2.more {w : World} {B B' : Nat} {v : Value} {L : HldL} (h : RdH2 w B v L) (hB : B ≤ B') : RdH2 w B' v L := by
  obtain ⟨A, c, hv, hc, hx⟩ := h
  refine ⟨A, c, hv, hc, fun h0 => ?_⟩
  obtain ⟨g, o, hA, hg, hcell⟩ := hx h0
  exact ⟨g, o, hA, Nat.lt_of_lt_of_le hg hB, hcell⟩
set_option maxRecDepth 100000 in
set_option maxHeartbeats 1000000 in
/-- two slices of the same are the same -/
theorem SameHelds_same (va vb : Value) (L : HldL) (hL : L.length ≤ 2 ^ 40) (B : Nat) (w : World) (ha : RdH2 w B va L) (hb : RdH2 w B vb L) (hB : B ≤ w.heap.size) :
    Calls Tryz.prog 28 #[va, vb] w fun e w' => e = .returned (.bool true) ∧ Below w.heap.size w w' := by
  obtain ⟨A1, c1, rfl, hc1, hx1⟩ := ha
  obtain ⟨A2, c2, rfl, hc2, hx2⟩ := hb
  have H1 := Lib.hid hx1
  have H2 := Lib.hid hx2
  clear hx1 hx2
  go_enter Tryz.func28, Tryz.ntmps28
  go_wp2
  go_loopg [5] L.length (fun gh vi wr => ∃ k : Nat, vi = .int .i64 k ∧ k ≤ L.length ∧ gh = L.length - k ∧ Below w.heap.size w wr)
  case atStart => exact ⟨0, rfl, Nat.zero_le _, rfl, Below.refl _ _⟩
  case round =>
    obtain ⟨k, rfl, hk, hgm, hS⟩ := hrel
    by_cases hkl : k < L.length
    · obtain ⟨g1, o1, rfl, hg1, hcell1⟩ := H1.out (by omega)
      obtain ⟨g2, o2, rfl, hg2, hcell2⟩ := H2.out (by omega)
      obtain ⟨x0, x1, x2, x3⟩ := hcell1 k hkl
      obtain ⟨y0, y1, y2, y3⟩ := hcell2 k hkl
      have hl1 : g1 < w.heap.size := Nat.lt_of_lt_of_le hg1 hB
      have hl2 : g2 < w.heap.size := Nat.lt_of_lt_of_le hg2 hB
      have p0 := (hS.cell (p := ⟨g1, o1 + k * 4, none⟩) hl1).trans x0
      have p1 := (hS.cell (p := ⟨g1, o1 + k * 4 + 1, none⟩) hl1).trans x1
      have p2 := (hS.cell (p := ⟨g1, o1 + k * 4 + 2, none⟩) hl1).trans x2
      have p3 := (hS.cell (p := ⟨g1, o1 + k * 4 + 3, none⟩) hl1).trans x3
      have q0 := (hS.cell (p := ⟨g2, o2 + k * 4, none⟩) hl2).trans y0
      have q1 := (hS.cell (p := ⟨g2, o2 + k * 4 + 1, none⟩) hl2).trans y1
      have q2 := (hS.cell (p := ⟨g2, o2 + k * 4 + 2, none⟩) hl2).trans y2
      have q3 := (hS.cell (p := ⟨g2, o2 + k * 4 + 3, none⟩) hl2).trans y3
      have b1 : (0 : Int) ≤ (k : Int) := by omega
      have b2 : (k : Int) < (L.length : Int) := by omega
      clear x0 x1 x2 x3 y0 y1 y2 y3 hcell1 hcell2
      go_wp2
      go_region
      go_wp2
      go_roundg (L.length - (k + 1))
      case measure => omega
      case rel => exact ⟨k + 1, by go_num, hkl, rfl, hS.drew⟩
    · obtain rfl : k = L.length := by omega
      go_wp2
      go_ret
      exact ⟨rfl, hS⟩
/-- v is a slice that reads as the pieces L, below block B -/
def RdL (w : World) (B : Nat) (v : Value) (L : HldL) : Prop := RdC w B 4 v L.length (hldRow L)
theorem RdL.below {w w' : World} {B : Nat} {v : Value} {L : HldL} (h : RdL w B v L) (hb : Below B w w') : RdL w' B v L := RdC.below h hb
theorem RdL.more {w : World} {B B' : Nat} {v : Value} {L : HldL} (h : RdL w B v L) (hB : B ≤ B') : RdL w B' v L := by
  obtain ⟨A, c, hv, hl, hc, hx⟩ := h
  refine ⟨A, c, hv, hl, hc, fun h0 => ?_⟩
  obtain ⟨g, o, hA, hg, hcell⟩ := hx h0
  exact ⟨g, o, hA, Nat.lt_of_lt_of_le hg hB, hcell⟩
theorem RdL.own {w : World} {base : Nat} {v : Value} {L : HldL} (h : w.ownsRow base 82 4 v L.length (hldRow L)) : RdL w w.heap.size v L := RdC.ownP h
theorem RdL.nil (w : World) (B : Nat) : RdL w B (.slice none 0 0) [] := RdC.nilP w B 4 none 0
theorem RdL.form {w : World} {B : Nat} {v : Value} {L : HldL} (h : RdL w B v L) : ∃ A c, v = .slice A L.length c ∧ L.length ≤ c ∧ (0 < L.length → ∃ g o, A = some ⟨g, o, none⟩ ∧ g < B ∧ ∀ k (hk : k < L.length),
    w.cell? ⟨g, o + k * 4, none⟩ = some (.int .u32 (L[k].id.1 : Int)) ∧ w.cell? ⟨g, o + k * 4 + 1, none⟩ = some (.int .i64 L[k].id.2) ∧ w.cell? ⟨g, o + k * 4 + 2, none⟩ = some (.int .i64 L[k].uses) ∧ w.cell? ⟨g, o + k * 4 + 3, none⟩ = some (.string (bs L[k].text))) := by
  obtain ⟨A, c, hv, hl, hc, hx⟩ := h
  refine ⟨A, c, hv, hc, fun h0 => ?_⟩
  obtain ⟨g, o, hA, hg, hcell⟩ := hx h0
  refine ⟨g, o, hA, hg, fun k hk => ⟨?_, ?_, ?_, ?_⟩⟩
  · have := hcell (k * 4 + 0) _ (by rw [hldRow_at L k hk 0 (by decide)]; rfl)
    simpa using this
  · have := hcell (k * 4 + 1) _ (by rw [hldRow_at L k hk 1 (by decide)]; rfl)
    simpa [Nat.add_assoc] using this
  · have := hcell (k * 4 + 2) _ (by rw [hldRow_at L k hk 2 (by decide)]; rfl)
    simpa [Nat.add_assoc] using this
  · have := hcell (k * 4 + 3) _ (by rw [hldRow_at L k hk 3 (by decide)]; rfl)
    simpa [Nat.add_assoc] using this
theorem RdL.two {w : World} {B : Nat} {v : Value} {L : HldL} (h : RdL w B v L) : RdH2 w B v L := h.form
end Go.Proofs.YtpanoplcamdnkaaGreatDoor

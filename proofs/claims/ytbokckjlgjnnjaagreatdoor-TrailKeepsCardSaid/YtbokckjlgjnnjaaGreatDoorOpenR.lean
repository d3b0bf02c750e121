/- An argument that is a recipe is opened. No conditions. -/
import Derived.Test.YtbokckjlgjnnjaaGreatDoorOpenS
import Derived.Test.YtbokckjlgjnnjaaGreatDoorOpenI
import Derived.Test.YtbokckjlgjnnjaaGreatDoorIds
import Derived.ChangeArms
namespace Go.Proofs.YtbokckjlgjnnjaaGreatDoor
open Go.RowKit Go.ChangeShapes Go.WideShapes Go.Deep

section
variable {H : Type} {enc : TypeId × Value → H} {P : Program} {w : World} {base : Nat} {spare : Nat → Bool} {held : Bool}
/-- a slice of structs among a struct's fields, cell by cell -/
theorem open_rowsT {t e : TypeId} {fs : Array Field} {v : Value} {fuel : Nat} {y : DataW H × List MemPlace} (ht : P.underlying t = some (.slice e)) (he : P.underlying e = some (.struct fs))
    (hone : oneCellFields P fs = true) (hC : P.cellsOf e = fs.size) (hpos : 0 < fs.size) (hf : DataW.trod enc P w base spare held fuel t [v] = some y) :
    ∃ A len cap, v = .slice A len cap ∧ len ≤ cap ∧ cap ≤ maxLen ∧ (0 < len → ∃ g o, A = some ⟨g, o, none⟩ ∧ g < w.heap.size ∧
      ∀ i, i < len → ∀ (j : Nat) (f : Field), fs[j]? = some f → ∃ (u : Value) (n : Nat) (y : DataW H × List MemPlace), w.cell? ⟨g, o + (i * fs.size + j), none⟩ = some u ∧ DataW.trod enc P w base spare held n f.type [u] = some y) := by
  obtain ⟨d, ps⟩ := y
  rcases open_slice_fields ht he hone hC hf with ⟨h1, _⟩ | ⟨a, len', cap', m, D, Pl, h1, _, hl, hm, hmm, _, hi⟩
  · simp only [List.cons.injEq, and_true] at h1
    subst h1
    exact ⟨none, 0, 0, rfl, Nat.le_refl _, Nat.zero_le _, fun h => absurd h (Nat.lt_irrefl _)⟩
  · simp only [List.cons.injEq, and_true] at h1
    subst h1
    refine ⟨some a, len', cap', rfl, hl, hm, fun h0 => ?_⟩
    have hlm : len' ≤ m := by rw [hmm]; split <;> omega
    obtain ⟨f0, hf0⟩ : ∃ f0, fs[0]? = some f0 := ⟨fs[0], Array.getElem?_eq_getElem hpos⟩
    obtain ⟨ys, n, _, _, _, hfl⟩ := hi 0 (by omega)
    obtain ⟨u0, y0, hc0, _, _⟩ := hfl 0 f0 hf0
    have hc0' : w.cell? a = some u0 := by simpa [Addr.add] using hc0
    have hsp := spot_none hc0'
    obtain ⟨g, o, sp⟩ := a
    simp only at hsp
    subst hsp
    refine ⟨g, o, rfl, World.block_lt_of_cell? w _ hc0', fun i hil j f hj => ?_⟩
    obtain ⟨ys, n, _, _, _, hfl⟩ := hi i (by omega)
    obtain ⟨u, y, hc, _, ht'⟩ := hfl j f hj
    exact ⟨u, n, y, by rw [Addr.add_lit] at hc; exact hc, ht'⟩
end
theorem idf_one : ∃ fs, Tryz.prog.underlying 71 = some (.struct fs) ∧ oneCellFields Tryz.prog fs = true ∧ fs.size = 2 ∧ fs.map (·.type) = #[33, 3] := ⟨_, Tryz.underlying71, by kernel_rfl, by kernel_rfl, by kernel_rfl⟩
/-- the IDs' numbers are Go's own -/
def IdsOk (L : IdL) : Prop := ∀ x ∈ L, x.1 < 4294967296 ∧ -9223372036854775808 ≤ x.2 ∧ x.2 ≤ 9223372036854775807
set_option maxRecDepth 100000 in
theorem open_ids {H : Type} {enc : TypeId × Value → H} {W : World} {base : Nat} {spare : Nat → Bool} {held : Bool} {v : Value} {fuel : Nat} {y : DataW H × List MemPlace}
    (h : DataW.trod enc Tryz.prog W base spare held fuel 34 [v] = some y) : ∃ L : IdL, RdI W W.heap.size v L ∧ IdsOk L ∧ L.length ≤ maxLen := by
  obtain ⟨fs, hu, hone, hsz, hty⟩ := idf_one
  obtain ⟨A, len, cap, rfl, hlc, hcm, hx⟩ := open_rowsT (P := Tryz.prog) Tryz.underlying34 hu hone (id_cells.trans hsz.symm) (by omega) h
  rcases Nat.eq_zero_or_pos len with h0 | h0
  · subst h0
    exact ⟨[], ⟨A, cap, rfl, rfl, Nat.zero_le _, fun h => absurd h (Nat.lt_irrefl 0)⟩, fun o h => absurd h List.not_mem_nil, Nat.zero_le maxLen⟩
  · obtain ⟨g, o, rfl, hg, hc⟩ := hx h0
    rw [hsz] at hc
    have fty : ∀ j, j < 2 → ∃ f, fs[j]? = some f ∧ some f.type = #[33, 3][j]? := fun j hj => by
      have hj' : j < fs.size := by omega
      refine ⟨fs[j], Array.getElem?_eq_getElem hj', ?_⟩
      rw [← hty, Array.getElem?_map, Array.getElem?_eq_getElem hj']
      rfl
    have each : ∀ i, i < len → ∃ q : Idn, W.cell? ⟨g, o + (i * 2 + 0), none⟩ = some (.int .u32 (q.1 : Int)) ∧ W.cell? ⟨g, o + (i * 2 + 1), none⟩ = some (.int .i64 q.2) ∧ q.1 < 4294967296 ∧ -9223372036854775808 ≤ q.2 ∧ q.2 ≤ 9223372036854775807 := fun i hi => by
      obtain ⟨f0, e0, t0⟩ := fty 0 (by decide)
      obtain ⟨f1, e1, t1⟩ := fty 1 (by decide)
      obtain ⟨u0, n0, y0, c0, r0⟩ := hc i hi 0 f0 e0
      obtain ⟨u1, n1, y1, c1, r1⟩ := hc i hi 1 f1 e1
      have t0' : f0.type = 33 := Option.some.inj t0
      have t1' : f1.type = 3 := Option.some.inj t1
      rw [t0'] at r0; rw [t1'] at r1
      obtain ⟨z0, q0, _, w0⟩ := DataW.trod_int Tryz.underlying33 r0
      obtain ⟨z1, q1, _, w1⟩ := DataW.trod_int Tryz.underlying3 r1
      simp only [List.cons.injEq, and_true] at q0 q1
      subst q0; subst q1
      have b0 := u32_bounds w0
      have b1 := i64_bounds w1
      refine ⟨(z0.toNat, z1), ?_, c1, ?_, b1.1, b1.2⟩
      · rw [show ((z0.toNat : Nat) : Int) = z0 by omega]; exact c0
      · show z0.toNat < _; omega
    obtain ⟨F, hF⟩ := choose_lt each
    have hll : ((List.range len).map fun i => F i).length = len := by simp
    refine ⟨(List.range len).map fun i => F i, ⟨_, cap, by rw [hll], by rw [idRow_length], by rw [hll]; exact hlc, fun _ => ⟨g, o, rfl, hg, fun k u hu => ?_⟩⟩, fun q hq => ?_, by rw [hll]; omega⟩
    · have hk : k < len * 2 := by have := (List.getElem?_eq_some_iff.1 hu).1; rw [idRow_length, hll] at this; exact this
      have hk2 : k / 2 < ((List.range len).map fun i => F i).length := by rw [hll]; omega
      have hj := idRow_at _ (k / 2) hk2 (k % 2) (Nat.mod_lt _ (by decide))
      rw [show k / 2 * 2 + k % 2 = k by omega, hu] at hj
      obtain ⟨c0, c1, _⟩ := hF (k / 2) (by rw [hll] at hk2; exact hk2)
      simp only [List.getElem_map, List.getElem_range] at hj
      rcases Nat.mod_two_eq_zero_or_one k with hm | hm
      · rw [hm] at hj
        rw [show o + k = o + (k / 2 * 2 + 0) by omega, c0, hj]; rfl
      · rw [hm] at hj
        rw [show o + k = o + (k / 2 * 2 + 1) by omega, c1, hj]; rfl
    · simp only [List.mem_map, List.mem_range] at hq
      obtain ⟨i, hi, rfl⟩ := hq
      obtain ⟨_, _, h1, h2, h3⟩ := hF i hi
      exact ⟨h1, h2, h3⟩
/-- a recipe's numbers are Go's own -/
structure RcpO (r : Rcp) : Prop where
  n : r.name.length ≤ maxLen
  l0 : -9223372036854775808 ≤ r.len
  l1 : r.len ≤ 9223372036854775807
  p : r.print < 4294967296
  c : r.ids.length ≤ maxLen
  i : IdsOk r.ids
theorem rcp_one : ∃ f0 f1 f2 f3, Tryz.prog.underlying 36 = some (.struct #[f0, f1, f2, f3]) ∧ oneCellFields Tryz.prog #[f0, f1, f2, f3] = true ∧ f0.type = 9 ∧ f1.type = 3 ∧ f2.type = 33 ∧ f3.type = 34 := ⟨_, _, _, _, Tryz.underlying36, by kernel_rfl, by kernel_rfl, by kernel_rfl, by kernel_rfl, by kernel_rfl⟩
theorem rcp_cells : Tryz.prog.cellsOf 36 = 4 := by kernel_rfl
set_option maxRecDepth 100000 in
theorem open_rcp {H : Type} {enc : TypeId × Value → H} {W : World} {base b0 : Nat} {spare : Nat → Bool} {held : Bool} {r : Reach} {v : Value} {d : DataW H} {ps : List MemPlace}
    (hv : Value.okWide Tryz.prog W r b0 36 v) (h : DataW.Trod enc Tryz.prog W base spare held 36 v d ps) :
    ∃ q : Rcp, RcpV W W.heap.size v q ∧ RcpO q := by
  obtain ⟨f0, f1, f2, f3, hu, hone, t0, t1, t2, t3⟩ := rcp_one
  obtain ⟨v0, v1, v2, v3, y0, y1, y2, y3, n, rfl, _, _, h0, h1, h2, h3⟩ := Go.Joins.open_agg4 hu hone rcp_cells hv h
  rw [t0] at h0; rw [t1] at h1; rw [t2] at h2; rw [t3] at h3
  obtain ⟨s0, q0, _, w0⟩ := DataW.trod_string Tryz.underlying9 h0
  obtain ⟨z1, q1, _, w1⟩ := DataW.trod_int Tryz.underlying3 h1
  obtain ⟨z2, q2, _, w2⟩ := DataW.trod_int Tryz.underlying33 h2
  obtain ⟨L, hL, hok, hll⟩ := open_ids h3
  simp only [List.cons.injEq, and_true] at q0 q1 q2
  subst q0; subst q1; subst q2
  have b1 := i64_bounds w1
  have b2 := u32_bounds w2
  refine ⟨⟨s0.data.toList, z1, z2.toNat, L⟩, ⟨v3, ?_, hL⟩, ⟨by show s0.data.toList.length ≤ _; rw [← size_toList]; exact w0, b1.1, b1.2, by show z2.toNat < _; omega, hll, hok⟩⟩
  show Value.agg #[.string s0, .int .i64 z1, .int .u32 z2, v3] = .agg #[.string (bs s0.data.toList), .int .i64 z1, .int .u32 ((z2.toNat : Nat) : Int), v3]
  rw [bs_of, show ((z2.toNat : Nat) : Int) = z2 by omega]
end Go.Proofs.YtbokckjlgjnnjaaGreatDoor

/- An argument that is a slice of acts on a tape is opened. No conditions. -/
import Derived.Test.YtpacalklcdlhoaaDoorOpenS
import Derived.Test.YtpacalklcdlhoaaDoorOpenI
import Derived.Test.YtpacalklcdlhoaaDoorActs1
namespace Go.Proofs.YtpacalklcdlhoaaDoor
open Go.RowKit Go.ChangeShapes Go.WideShapes Go.Deep

theorem wr_one : ∃ fs, Tryd.prog.underlying 62 = some (.struct fs) ∧ oneCellFields Tryd.prog fs = true ∧ fs.size = 3 ∧ fs.map (·.type) = #[9, 9, 3] := ⟨_, Tryd.underlying62, by kernel_rfl, by kernel_rfl, by kernel_rfl⟩
theorem wr_cells : Tryd.prog.cellsOf 62 = 3 := by kernel_rfl
set_option maxRecDepth 100000 in
theorem open_writes {H : Type} {enc : TypeId × Value → H} {W : World} {base b0 : Nat} {spare : Nat → Bool} {held : Bool} {r : Reach} {v : Value} {d : DataW H} {ps : List MemPlace}
    (hv : Value.okWide Tryd.prog W r b0 57 v) (h : DataW.Trod enc Tryd.prog W base spare held 57 v d ps) :
    ∃ l : List Wr, WrRd W W.heap.size v l ∧ (∀ x ∈ l, x.kind.length ≤ maxLen ∧ x.s.length ≤ maxLen ∧ -9223372036854775808 ≤ x.n ∧ x.n ≤ 9223372036854775807) ∧ l.length ≤ maxLen := by
  obtain ⟨fs, hu, hone, hsz, hty⟩ := wr_one
  obtain ⟨A, len, cap, rfl, hlc, hcm, hx⟩ := open_rows (P := Tryd.prog) (t := 57) (e := 62) (w := W) (v := v) (r := r) (b0 := b0) (fs := fs) Tryd.underlying57 hu hone (wr_cells.trans hsz.symm) (by omega) hv h
  rcases Nat.eq_zero_or_pos len with h0 | h0
  · subst h0
    exact ⟨[], ⟨A, cap, rfl, hlc, fun h => absurd h (Nat.lt_irrefl 0)⟩, fun o h => absurd h List.not_mem_nil, Nat.zero_le maxLen⟩
  · obtain ⟨g, o, rfl, hg, hc⟩ := hx h0
    rw [hsz] at hc
    have fty : ∀ j, j < 3 → ∃ f, fs[j]? = some f ∧ some f.type = #[9, 9, 3][j]? := fun j hj => by
      have hj' : j < fs.size := by omega
      refine ⟨fs[j], Array.getElem?_eq_getElem hj', ?_⟩
      rw [← hty, Array.getElem?_map, Array.getElem?_eq_getElem hj']
      rfl
    have each : ∀ i, i < len → ∃ q : Bytes × Bytes × Int, W.cell? ⟨g, o + (i * 3 + 0), none⟩ = some (.string (bs q.1)) ∧ W.cell? ⟨g, o + (i * 3 + 1), none⟩ = some (.string (bs q.2.1)) ∧ W.cell? ⟨g, o + (i * 3 + 2), none⟩ = some (.int .i64 q.2.2) ∧
        q.1.length ≤ maxLen ∧ q.2.1.length ≤ maxLen ∧ -9223372036854775808 ≤ q.2.2 ∧ q.2.2 ≤ 9223372036854775807 := fun i hi => by
      obtain ⟨f0, e0, t0⟩ := fty 0 (by decide)
      obtain ⟨f1, e1, t1⟩ := fty 1 (by decide)
      obtain ⟨f2, e2, t2⟩ := fty 2 (by decide)
      obtain ⟨u0, n0, y0, c0, r0⟩ := hc i hi 0 f0 e0
      obtain ⟨u1, n1, y1, c1, r1⟩ := hc i hi 1 f1 e1
      obtain ⟨u2, n2, y2, c2, r2⟩ := hc i hi 2 f2 e2
      have t0' : f0.type = 9 := Option.some.inj t0
      have t1' : f1.type = 9 := Option.some.inj t1
      have t2' : f2.type = 3 := Option.some.inj t2
      rw [t0'] at r0; rw [t1'] at r1; rw [t2'] at r2
      obtain ⟨s0, q0, _, w0⟩ := DataW.trod_string Tryd.underlying9 r0
      obtain ⟨s1, q1, _, w1⟩ := DataW.trod_string Tryd.underlying9 r1
      obtain ⟨z2, q2, _, w2⟩ := DataW.trod_int Tryd.underlying3 r2
      simp only [List.cons.injEq, and_true] at q0 q1 q2
      subst q0; subst q1; subst q2
      have b2 := i64_bounds w2
      refine ⟨(s0.data.toList, s1.data.toList, z2), ?_, ?_, c2, by rw [← size_toList]; exact w0, by rw [← size_toList]; exact w1, b2.1, b2.2⟩
      · rw [c0]; congr 2
      · rw [c1]; congr 2
    obtain ⟨F, hF⟩ := choose_lt each
    have hll : ((List.range len).map fun i => (⟨(F i).1, (F i).2.1, (F i).2.2⟩ : Wr)).length = len := by simp
    refine ⟨(List.range len).map fun i => ⟨(F i).1, (F i).2.1, (F i).2.2⟩, ⟨_, cap, by rw [hll], by rw [hll]; exact hlc, fun _ => ⟨g, o, rfl, hg, fun k hk => ?_⟩⟩, fun q hq => ?_, by rw [hll]; omega⟩
    · have hk' : k < len := by rw [hll] at hk; exact hk
      obtain ⟨c0, c1, c2, _⟩ := hF k hk'
      simp only [List.getElem_map, List.getElem_range]
      exact ⟨c0, c1, c2⟩
    · simp only [List.mem_map, List.mem_range] at hq
      obtain ⟨i, hi, rfl⟩ := hq
      obtain ⟨_, _, _, h1, h2, h3, h4⟩ := hF i hi
      exact ⟨h1, h2, h3, h4⟩
end Go.Proofs.YtpacalklcdlhoaaDoor

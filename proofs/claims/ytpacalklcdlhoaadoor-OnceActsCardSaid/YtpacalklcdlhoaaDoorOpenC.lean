/- An argument that is a slice of calls is opened. No conditions. -/
import Derived.Test.YtpacalklcdlhoaaDoorOpenS
import Derived.Test.YtpacalklcdlhoaaDoorOpenI
import Derived.Test.YtpacalklcdlhoaaDoorOnf
import Derived.ChangeArms
namespace Go.Proofs.YtpacalklcdlhoaaDoor
open Go.RowKit Go.ChangeShapes Go.WideShapes Go.Deep

theorem cl_one : ∃ fs, Tryd.prog.underlying 73 = some (.struct fs) ∧ oneCellFields Tryd.prog fs = true ∧ fs.size = 4 ∧ fs.map (·.type) = #[4, 9, 9, 3] := ⟨_, Tryd.underlying73, by kernel_rfl, by kernel_rfl, by kernel_rfl⟩
theorem cl_cells : Tryd.prog.cellsOf 73 = 4 := by kernel_rfl
set_option maxRecDepth 100000 in
theorem open_calls {H : Type} {enc : TypeId × Value → H} {W : World} {base b0 : Nat} {spare : Nat → Bool} {held : Bool} {r : Reach} {v : Value} {d : DataW H} {ps : List MemPlace}
    (hv : Value.okWide Tryd.prog W r b0 68 v) (h : DataW.Trod enc Tryd.prog W base spare held 68 v d ps) :
    ∃ l : List Cl, ClRd W W.heap.size v l ∧ (∀ x ∈ l, x.client.length ≤ maxLen ∧ x.s.length ≤ maxLen ∧ (Lit.int .i64 x.n).wf = true) ∧ l.length ≤ maxLen := by
  obtain ⟨fs, hu, hone, hsz, hty⟩ := cl_one
  obtain ⟨A, len, cap, rfl, hlc, hcm, hx⟩ := open_rows (P := Tryd.prog) (t := 68) (e := 73) (w := W) (v := v) (r := r) (b0 := b0) (fs := fs) Tryd.underlying68 hu hone (cl_cells.trans hsz.symm) (by omega) hv h
  rcases Nat.eq_zero_or_pos len with h0 | h0
  · subst h0
    exact ⟨[], ⟨A, cap, rfl, hlc, fun h => absurd h (Nat.lt_irrefl 0)⟩, fun o h => absurd h List.not_mem_nil, Nat.zero_le maxLen⟩
  · obtain ⟨g, o, rfl, hg, hc⟩ := hx h0
    rw [hsz] at hc
    have fty : ∀ j, j < 4 → ∃ f, fs[j]? = some f ∧ some f.type = #[4, 9, 9, 3][j]? := fun j hj => by
      have hj' : j < fs.size := by omega
      refine ⟨fs[j], Array.getElem?_eq_getElem hj', ?_⟩
      rw [← hty, Array.getElem?_map, Array.getElem?_eq_getElem hj']
      rfl
    have each : ∀ i, i < len → ∃ q : Bool × Bytes × Bytes × Int, W.cell? ⟨g, o + (i * 4 + 0), none⟩ = some (.bool q.1) ∧ W.cell? ⟨g, o + (i * 4 + 1), none⟩ = some (.string (bs q.2.1)) ∧ W.cell? ⟨g, o + (i * 4 + 2), none⟩ = some (.string (bs q.2.2.1)) ∧ W.cell? ⟨g, o + (i * 4 + 3), none⟩ = some (.int .i64 q.2.2.2) ∧
        q.2.1.length ≤ maxLen ∧ q.2.2.1.length ≤ maxLen ∧ (Lit.int .i64 q.2.2.2).wf = true := fun i hi => by
      obtain ⟨f0, e0, t0⟩ := fty 0 (by decide)
      obtain ⟨f1, e1, t1⟩ := fty 1 (by decide)
      obtain ⟨f2, e2, t2⟩ := fty 2 (by decide)
      obtain ⟨f3, e3, t3⟩ := fty 3 (by decide)
      obtain ⟨u0, n0, y0, c0, r0⟩ := hc i hi 0 f0 e0
      obtain ⟨u1, n1, y1, c1, r1⟩ := hc i hi 1 f1 e1
      obtain ⟨u2, n2, y2, c2, r2⟩ := hc i hi 2 f2 e2
      obtain ⟨u3, n3, y3, c3, r3⟩ := hc i hi 3 f3 e3
      have t0' : f0.type = 4 := Option.some.inj t0
      have t1' : f1.type = 9 := Option.some.inj t1
      have t2' : f2.type = 9 := Option.some.inj t2
      have t3' : f3.type = 3 := Option.some.inj t3
      rw [t0'] at r0; rw [t1'] at r1; rw [t2'] at r2; rw [t3'] at r3
      obtain ⟨x0, q0, _⟩ := DataW.trod_bool Tryd.underlying4 r0
      obtain ⟨s1, q1, _, w1⟩ := DataW.trod_string Tryd.underlying9 r1
      obtain ⟨s2, q2, _, w2⟩ := DataW.trod_string Tryd.underlying9 r2
      obtain ⟨z3, q3, _, w3⟩ := DataW.trod_int Tryd.underlying3 r3
      simp only [List.cons.injEq, and_true] at q0 q1 q2 q3
      subst q0; subst q1; subst q2; subst q3
      refine ⟨(x0, s1.data.toList, s2.data.toList, z3), c0, ?_, ?_, c3, by rw [← size_toList]; exact w1, by rw [← size_toList]; exact w2, w3⟩
      · rw [c1]; congr 2
      · rw [c2]; congr 2
    obtain ⟨F, hF⟩ := choose_lt each
    have hll : ((List.range len).map fun i => (⟨(F i).1, (F i).2.1, (F i).2.2.1, (F i).2.2.2⟩ : Cl)).length = len := by simp
    refine ⟨(List.range len).map fun i => ⟨(F i).1, (F i).2.1, (F i).2.2.1, (F i).2.2.2⟩, ⟨_, cap, by rw [hll], by rw [hll]; exact hlc, fun _ => ⟨g, o, rfl, hg, fun k hk => ?_⟩⟩, fun q hq => ?_, by rw [hll]; omega⟩
    · have hk' : k < len := by rw [hll] at hk; exact hk
      obtain ⟨c0, c1, c2, c3, _⟩ := hF k hk'
      simp only [List.getElem_map, List.getElem_range]
      exact ⟨c0, c1, c2, c3⟩
    · simp only [List.mem_map, List.mem_range] at hq
      obtain ⟨i, hi, rfl⟩ := hq
      obtain ⟨_, _, _, _, h1, h2, h3⟩ := hF i hi
      exact ⟨h1, h2, h3⟩
end Go.Proofs.YtpacalklcdlhoaaDoor

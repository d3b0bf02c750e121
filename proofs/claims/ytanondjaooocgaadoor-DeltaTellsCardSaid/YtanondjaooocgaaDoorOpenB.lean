/- An argument that is a difference of the reference is opened. No conditions. -/
import Derived.Test.YtanondjaooocgaaDoorOpenS
import Derived.Test.YtanondjaooocgaaDoorDelN
namespace Go.Proofs.YtanondjaooocgaaDoor
open Go.RowKit Go.ChangeShapes Go.WideShapes Go.Deep

theorem bop_one : ∃ fs, Tryd.prog.underlying 46 = some (.struct fs) ∧ oneCellFields Tryd.prog fs = true ∧ fs.size = 3 ∧ fs.map (·.type) = #[3, 3, 9] := ⟨_, Tryd.underlying46, by kernel_rfl, by kernel_rfl, by kernel_rfl⟩
theorem bop_cells : Tryd.prog.cellsOf 46 = 3 := by kernel_rfl
theorem opRow_split (l : List DOp) (k : Nat) (u : Value) (h : (opRow l)[k]? = some u) : ∃ i j, ∃ hi : i < l.length, k = i * 3 + j ∧ j < 3 ∧ (opCells l[i])[j]? = some u := by
  have hk : k < (opRow l).length := (List.getElem?_eq_some_iff.1 h).1
  rw [opRow_length] at hk
  have h1 : k / 3 < l.length := by omega
  refine ⟨k / 3, k % 3, h1, by omega, by omega, ?_⟩
  rw [← opRow_at l (k / 3) h1 (k % 3) (by omega), show k / 3 * 3 + k % 3 = k by omega]
  exact h
set_option maxRecDepth 100000 in
theorem open_bops {H : Type} {enc : TypeId × Value → H} {W : World} {base b0 : Nat} {spare : Nat → Bool} {held : Bool} {r : Reach} {v : Value} {d : DataW H} {ps : List MemPlace}
    (hv : Value.okWide Tryd.prog W r b0 42 v) (h : DataW.Trod enc Tryd.prog W base spare held 42 v d ps) :
    ∃ l : List DOp, RdM W W.heap.size 3 v l.length (opRow l) ∧ (∀ o ∈ l, (Lit.int .i64 o.from_).wf = true ∧ (Lit.int .i64 o.many).wf = true) ∧ (∀ o ∈ l, o.text.length ≤ maxLen) ∧ l.length ≤ maxLen := by
  obtain ⟨fs, hu, hone, hsz, hty⟩ := bop_one
  obtain ⟨A, len, cap, rfl, hlc, hcm, hx⟩ := open_rows (P := Tryd.prog) (t := 42) (e := 46) (w := W) (v := v) (r := r) (b0 := b0) (fs := fs) Tryd.underlying42 hu hone (bop_cells.trans hsz.symm) (by omega) hv h
  rcases Nat.eq_zero_or_pos len with h0 | h0
  · subst h0
    refine ⟨[], ⟨A, cap, rfl, rfl, hlc, fun h => absurd h (Nat.lt_irrefl 0)⟩, fun o h => ?_, fun o h => ?_, ?_⟩
    · exact absurd h List.not_mem_nil
    · exact absurd h List.not_mem_nil
    · rw [List.length_nil]; exact Nat.zero_le maxLen
  · obtain ⟨g, o, rfl, hg, hc⟩ := hx h0
    rw [hsz] at hc
    have fty : ∀ j, j < 3 → ∃ f, fs[j]? = some f ∧ some f.type = #[3, 3, 9][j]? := fun j hj => by
      have hj' : j < fs.size := by omega
      refine ⟨fs[j], Array.getElem?_eq_getElem hj', ?_⟩
      rw [← hty, Array.getElem?_map, Array.getElem?_eq_getElem hj']
      rfl
    have each : ∀ i, i < len → ∃ q : Int × Int × Bytes, W.cell? ⟨g, o + (i * 3 + 0), none⟩ = some (.int .i64 q.1) ∧ W.cell? ⟨g, o + (i * 3 + 1), none⟩ = some (.int .i64 q.2.1) ∧ W.cell? ⟨g, o + (i * 3 + 2), none⟩ = some (.string (bs q.2.2)) ∧
        (Lit.int .i64 q.1).wf = true ∧ (Lit.int .i64 q.2.1).wf = true ∧ q.2.2.length ≤ maxLen := fun i hi => by
      obtain ⟨f0, e0, t0⟩ := fty 0 (by decide)
      obtain ⟨f1, e1, t1⟩ := fty 1 (by decide)
      obtain ⟨f2, e2, t2⟩ := fty 2 (by decide)
      obtain ⟨u0, n0, y0, c0, r0⟩ := hc i hi 0 f0 e0
      obtain ⟨u1, n1, y1, c1, r1⟩ := hc i hi 1 f1 e1
      obtain ⟨u2, n2, y2, c2, r2⟩ := hc i hi 2 f2 e2
      have t0' : f0.type = 3 := Option.some.inj t0
      have t1' : f1.type = 3 := Option.some.inj t1
      have t2' : f2.type = 9 := Option.some.inj t2
      rw [t0'] at r0; rw [t1'] at r1; rw [t2'] at r2
      obtain ⟨z0, q0, _, w0⟩ := DataW.trod_int Tryd.underlying3 r0
      obtain ⟨z1, q1, _, w1⟩ := DataW.trod_int Tryd.underlying3 r1
      obtain ⟨s2, q2, _, w2⟩ := DataW.trod_string Tryd.underlying9 r2
      simp only [List.cons.injEq, and_true] at q0 q1 q2
      subst q0; subst q1; subst q2
      refine ⟨(z0, z1, s2.data.toList), c0, c1, ?_, w0, w1, by rw [← size_toList]; exact w2⟩
      rw [c2]
      congr 2
    obtain ⟨F, hF⟩ := choose_lt each
    refine ⟨(List.range len).map fun i => ⟨(F i).1, (F i).2.1, (F i).2.2⟩, ⟨_, cap, by simp, by rw [opRow_length], by simpa using hlc, fun _ => ⟨g, o, rfl, hg, fun k u hu => ?_⟩⟩, fun q hq => ?_, fun q hq => ?_, by simp; omega⟩
    · obtain ⟨i, j, hi, rfl, hj, hcell⟩ := opRow_split _ k u hu
      have hi' : i < len := by simpa using hi
      obtain ⟨c0, c1, c2, _⟩ := hF i hi'
      simp only [List.getElem_map, List.getElem_range, opCells] at hcell
      match j, hj, hcell with
      | 0, _, h => simp at h; subst h; exact c0
      | 1, _, h => simp at h; subst h; exact c1
      | 2, _, h => simp at h; subst h; exact c2
    · simp only [List.mem_map, List.mem_range] at hq
      obtain ⟨i, hi, rfl⟩ := hq
      exact ⟨(hF i hi).2.2.2.1, (hF i hi).2.2.2.2.1⟩
    · simp only [List.mem_map, List.mem_range] at hq
      obtain ⟨i, hi, rfl⟩ := hq
      exact (hF i hi).2.2.2.2.2
end Go.Proofs.YtanondjaooocgaaDoor

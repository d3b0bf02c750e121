/- OpenR, OpenH, OpenF in one text. Conditions: as each part says. -/
import Derived.Test.YtpanoplcamdnkaaGreatDoorOpn1
import Derived.Test.YtpanoplcamdnkaaGreatDoorIds1
import Derived.ChangeArms
import Derived.Test.YtpanoplcamdnkaaGreatDoorHlds
import Derived.Deep.LoopGhost
import Derived.Test.YtpanoplcamdnkaaGreatDoorScr1
/- An argument that is a recipe is opened. No conditions. -/
namespace Go.Proofs.YtpanoplcamdnkaaGreatDoor
open Go.RowKit Go.ChangeShapes Go.WideShapes Go.Deep

section
variable {H : Type} {enc : TypeId × Value → H} {P : Program} {w : World} {base : Nat} {spare : Nat → Bool} {held : Bool}
/-- a slice of structs among a struct's fields, cell by cell -/
theorem open_rowsT {t e : TypeId} {fs : Array Field} {v : Value} {fuel : Nat} {y : DataW H × List MemPlace} (ht : P.underlying t = some (.slice e)) (he : P.underlying e = some (.struct fs))
    (hone : oneCellFields P fs = true) (hC : P.cellsOf e = fs.size) (hpos : 0 < fs.size) (hf : DataW.trod enc P w base spare held fuel t [v] = some y) :
    ∃ A len cap, v = .slice A len cap ∧ len ≤ cap ∧ cap ≤ maxLen ∧ (0 < len → ∃ g o, A = some ⟨g, o, none⟩ ∧ g < w.heap.size ∧
      ∀ i, i < len → ∀ (j : Nat) (f : Field), fs[j]? = some f → ∃ (u : Value) (n : Nat) (y : DataW H × List MemPlace), w.cell? ⟨g, o + (i * fs.size + j), none⟩ = some u ∧ DataW.trod enc P w base spare held n f.type [u] = some y) := by
  obtain ⟨d, ps⟩ := y
  rcases open_slice_fields ht he hone hC hf with ⟨h1, _⟩ | ⟨a, len', cap', m, D, Pl, h1, _, hl, hm, hmm, _, hi⟩
  · simp only [List.cons.injEq, and_true] at h1
    subst h1
    exact ⟨none, 0, 0, rfl, Nat.le_refl _, Nat.zero_le _, fun h => absurd h (Nat.lt_irrefl _)⟩
  · simp only [List.cons.injEq, and_true] at h1
    subst h1
    refine ⟨some a, len', cap', rfl, hl, hm, fun h0 => ?_⟩
    have hlm : len' ≤ m := by rw [hmm]; split <;> omega
    obtain ⟨f0, hf0⟩ : ∃ f0, fs[0]? = some f0 := ⟨fs[0], Array.getElem?_eq_getElem hpos⟩
    obtain ⟨ys, n, _, _, _, hfl⟩ := hi 0 (by omega)
    obtain ⟨u0, y0, hc0, _, _⟩ := hfl 0 f0 hf0
    have hc0' : w.cell? a = some u0 := by simpa [Addr.add] using hc0
    have hsp := spot_none hc0'
    obtain ⟨g, o, sp⟩ := a
    simp only at hsp
    subst hsp
    refine ⟨g, o, rfl, World.block_lt_of_cell? w _ hc0', fun i hil j f hj => ?_⟩
    obtain ⟨ys, n, _, _, _, hfl⟩ := hi i (by omega)
    obtain ⟨u, y, hc, _, ht'⟩ := hfl j f hj
    exact ⟨u, n, y, by rw [Addr.add_lit] at hc; exact hc, ht'⟩
end
theorem idf_one : ∃ fs, Tryz.prog.underlying 47 = some (.struct fs) ∧ oneCellFields Tryz.prog fs = true ∧ fs.size = 2 ∧ fs.map (·.type) = #[45, 3] := ⟨_, Tryz.underlying47, by kernel_rfl, by kernel_rfl, by kernel_rfl⟩
/-- the IDs' numbers are Go's own -/
def IdsOk (L : IdL) : Prop := ∀ x ∈ L, x.1 < 4294967296 ∧ -9223372036854775808 ≤ x.2 ∧ x.2 ≤ 9223372036854775807
set_option maxRecDepth 100000 in
theorem open_ids {H : Type} {enc : TypeId × Value → H} {W : World} {base : Nat} {spare : Nat → Bool} {held : Bool} {v : Value} {fuel : Nat} {y : DataW H × List MemPlace}
    (h : DataW.trod enc Tryz.prog W base spare held fuel 44 [v] = some y) : ∃ L : IdL, RdI W W.heap.size v L ∧ IdsOk L ∧ L.length ≤ maxLen := by
  obtain ⟨fs, hu, hone, hsz, hty⟩ := idf_one
  obtain ⟨A, len, cap, rfl, hlc, hcm, hx⟩ := open_rowsT (P := Tryz.prog) Tryz.underlying44 hu hone (id_cells.trans hsz.symm) (by omega) h
  rcases Nat.eq_zero_or_pos len with h0 | h0
  · subst h0
    exact ⟨[], ⟨A, cap, rfl, rfl, Nat.zero_le _, fun h => absurd h (Nat.lt_irrefl 0)⟩, fun o h => absurd h List.not_mem_nil, Nat.zero_le maxLen⟩
  · obtain ⟨g, o, rfl, hg, hc⟩ := hx h0
    rw [hsz] at hc
    have fty : ∀ j, j < 2 → ∃ f, fs[j]? = some f ∧ some f.type = #[45, 3][j]? := fun j hj => by
      have hj' : j < fs.size := by omega
      refine ⟨fs[j], Array.getElem?_eq_getElem hj', ?_⟩
      rw [← hty, Array.getElem?_map, Array.getElem?_eq_getElem hj']
      rfl
    have each : ∀ i, i < len → ∃ q : Idn, W.cell? ⟨g, o + (i * 2 + 0), none⟩ = some (.int .u32 (q.1 : Int)) ∧ W.cell? ⟨g, o + (i * 2 + 1), none⟩ = some (.int .i64 q.2) ∧ q.1 < 4294967296 ∧ -9223372036854775808 ≤ q.2 ∧ q.2 ≤ 9223372036854775807 := fun i hi => by
      obtain ⟨f0, e0, t0⟩ := fty 0 (by decide)
      obtain ⟨f1, e1, t1⟩ := fty 1 (by decide)
      obtain ⟨u0, n0, y0, c0, r0⟩ := hc i hi 0 f0 e0
      obtain ⟨u1, n1, y1, c1, r1⟩ := hc i hi 1 f1 e1
      have t0' : f0.type = 45 := Option.some.inj t0
      have t1' : f1.type = 3 := Option.some.inj t1
      rw [t0'] at r0; rw [t1'] at r1
      obtain ⟨z0, q0, _, w0⟩ := DataW.trod_int Tryz.underlying45 r0
      obtain ⟨z1, q1, _, w1⟩ := DataW.trod_int Tryz.underlying3 r1
      simp only [List.cons.injEq, and_true] at q0 q1
      subst q0; subst q1
      have b0 := u32_bounds w0
      have b1 := i64_bounds w1
      refine ⟨(z0.toNat, z1), ?_, c1, ?_, b1.1, b1.2⟩
      · rw [show ((z0.toNat : Nat) : Int) = z0 by omega]; exact c0
      · show z0.toNat < _; omega
    obtain ⟨F, hF⟩ := choose_lt each
    have hll : ((List.range len).map fun i => F i).length = len := by simp
    refine ⟨(List.range len).map fun i => F i, ⟨_, cap, by rw [hll], by rw [idRow_length], by rw [hll]; exact hlc, fun _ => ⟨g, o, rfl, hg, fun k u hu => ?_⟩⟩, fun q hq => ?_, by rw [hll]; omega⟩
    · have hk : k < len * 2 := by have := (List.getElem?_eq_some_iff.1 hu).1; rw [idRow_length, hll] at this; exact this
      have hk2 : k / 2 < ((List.range len).map fun i => F i).length := by rw [hll]; omega
      have hj := idRow_at _ (k / 2) hk2 (k % 2) (Nat.mod_lt _ (by decide))
      rw [show k / 2 * 2 + k % 2 = k by omega, hu] at hj
      obtain ⟨c0, c1, _⟩ := hF (k / 2) (by rw [hll] at hk2; exact hk2)
      simp only [List.getElem_map, List.getElem_range] at hj
      rcases Nat.mod_two_eq_zero_or_one k with hm | hm
      · rw [hm] at hj
        rw [show o + k = o + (k / 2 * 2 + 0) by omega, c0, hj]; rfl
      · rw [hm] at hj
        rw [show o + k = o + (k / 2 * 2 + 1) by omega, c1, hj]; rfl
    · simp only [List.mem_map, List.mem_range] at hq
      obtain ⟨i, hi, rfl⟩ := hq
      obtain ⟨_, _, h1, h2, h3⟩ := hF i hi
      exact ⟨h1, h2, h3⟩
/-- a recipe's numbers are Go's own -/
structure RcpO (r : Rcp) : Prop where
  n : r.name.length ≤ maxLen
  l0 : -9223372036854775808 ≤ r.len
  l1 : r.len ≤ 9223372036854775807
  p : r.print < 4294967296
  c : r.ids.length ≤ maxLen
  i : IdsOk r.ids
theorem rcp_one : ∃ f0 f1 f2 f3, Tryz.prog.underlying 65 = some (.struct #[f0, f1, f2, f3]) ∧ oneCellFields Tryz.prog #[f0, f1, f2, f3] = true ∧ f0.type = 9 ∧ f1.type = 3 ∧ f2.type = 45 ∧ f3.type = 44 := ⟨_, _, _, _, Tryz.underlying65, by kernel_rfl, by kernel_rfl, by kernel_rfl, by kernel_rfl, by kernel_rfl⟩
theorem rcp_cells : Tryz.prog.cellsOf 65 = 4 := by kernel_rfl
end Go.Proofs.YtpanoplcamdnkaaGreatDoor
/- An argument that is a slice of pieces of a bin is opened. No conditions. -/
namespace Go.Proofs.YtpanoplcamdnkaaGreatDoor
open Go.RowKit Go.ChangeShapes Go.WideShapes Go.Deep

theorem held_one : ∃ f0 f1 f2, Tryz.prog.underlying 82 = some (.struct #[f0, f1, f2]) ∧ f0.type = 47 ∧ f1.type = 3 ∧ f2.type = 9 ∧ f0.offset = 0 ∧ f1.offset = 2 ∧ f2.offset = 3 := ⟨_, _, _, Tryz.underlying82, by kernel_rfl, by kernel_rfl, by kernel_rfl, by kernel_rfl, by kernel_rfl, by kernel_rfl⟩
theorem idh_one : ∃ f0 f1, Tryz.prog.underlying 47 = some (.struct #[f0, f1]) ∧ f0.type = 45 ∧ f1.type = 3 ∧ f0.offset = 0 ∧ f1.offset = 1 := ⟨_, _, Tryz.underlying47, by kernel_rfl, by kernel_rfl, by kernel_rfl, by kernel_rfl⟩
theorem held_cells : Tryz.prog.cellsOf 82 = 4 ∧ Tryz.prog.cellsOf 9 = 1 ∧ Tryz.prog.cellsOf 47 = 2 ∧ Tryz.prog.cellsOf 45 = 1 ∧ Tryz.prog.cellsOf 3 = 1 := ⟨by kernel_rfl, by kernel_rfl, by kernel_rfl, by kernel_rfl, by kernel_rfl⟩
theorem four_ofH {α : Type} {l : List α} (h : l.length = 4) : ∃ a b c d, l = [a, b, c, d] := by
  match l, h with
  | [a, b, c, d], _ => exact ⟨a, b, c, d, rfl⟩
theorem get_hldRow {L : HldL} {k : Nat} {u : Value} (h : (hldRow L)[k]? = some u) : ∃ hd : k / 4 < L.length, (hldC L[k / 4])[k % 4]? = some u := by
  have hk : k < (hldRow L).length := (List.getElem?_eq_some_iff.1 h).1
  rw [hldRow_length] at hk
  have hd : k / 4 < L.length := by omega
  refine ⟨hd, ?_⟩
  rw [← hldRow_at L (k / 4) hd (k % 4) (Nat.mod_lt _ (by decide)), show k / 4 * 4 + k % 4 = k by omega]
  exact h
/-- pieces out of their cells -/
theorem RdL.of {w : World} {B g o c : Nat} {L : HldL} (hc : L.length ≤ c) (hg : g < B) (h : ∀ k (hk : k < L.length),
    w.cell? ⟨g, o + k * 4 + 0, none⟩ = some (.int .u32 (L[k].id.1 : Int)) ∧ w.cell? ⟨g, o + k * 4 + 1, none⟩ = some (.int .i64 L[k].id.2) ∧ w.cell? ⟨g, o + k * 4 + 2, none⟩ = some (.int .i64 L[k].uses) ∧ w.cell? ⟨g, o + k * 4 + 3, none⟩ = some (.string (bs L[k].text))) :
    RdL w B (.slice (some ⟨g, o, none⟩) L.length c) L := by
  refine ⟨_, c, rfl, hldRow_length L, hc, fun _ => ⟨g, o, rfl, hg, fun k u hu => ?_⟩⟩
  obtain ⟨hd, hu⟩ := get_hldRow hu
  obtain ⟨c0, c1, c2, c3⟩ := h (k / 4) hd
  have e : o + k = o + k / 4 * 4 + k % 4 := by omega
  rw [e]
  have hm : k % 4 < 4 := Nat.mod_lt _ (by decide)
  generalize k % 4 = j at hu hm ⊢
  match j, hm, hu with
  | 0, _, hu => rw [← hu]; exact c0
  | 1, _, hu => rw [← hu]; exact c1
  | 2, _, hu => rw [← hu]; exact c2
  | 3, _, hu => rw [← hu]; exact c3
end Go.Proofs.YtpanoplcamdnkaaGreatDoor
/- Arguments that are slices of recipes, of reps' pieces, are opened. No conditions. -/
namespace Go.Proofs.YtpanoplcamdnkaaGreatDoor
open Go.RowKit Go.ChangeShapes Go.WideShapes Go.Deep

set_option maxRecDepth 100000 in
theorem helds_of {H : Type} {enc : TypeId × Value → H} {W : World} {base : Nat} {spare : Nat → Bool} {held : Bool} {v : Value} {fuel : Nat} {y : DataW H × List MemPlace}
    (hf' : DataW.trod enc Tryz.prog W base spare held fuel 54 [v] = some y) :
    ∃ l : HldL, RdL W W.heap.size v l ∧ (∀ x ∈ l, HldW x ∧ x.text.length ≤ maxLen) ∧ l.length ≤ maxLen := by
  obtain ⟨f0, f1, f2, hu, t0, t1, t2, o0, o1, o2⟩ := held_one
  obtain ⟨i0, i1, hiu, s0, s1, p0, p1⟩ := idh_one
  obtain ⟨k4, k1, k2, ku, ki⟩ := held_cells
  obtain ⟨d, ps⟩ := y
  rcases open_slice Tryz.underlying54 hf' with ⟨h1, _⟩ | ⟨a, len, cap, m, n, D, Pl, h1, _, hl, hm, hmm, _, hi⟩
  · simp only [List.cons.injEq, and_true] at h1
    subst h1
    exact ⟨[], RdL.nil _ _, fun o h => absurd h List.not_mem_nil, Nat.zero_le maxLen⟩
  · simp only [List.cons.injEq, and_true] at h1
    subst h1
    have hlm : len ≤ m := by rw [hmm]; split <;> omega
    rcases Nat.eq_zero_or_pos len with h0 | h0
    · subst h0
      exact ⟨[], RdC.nilP _ _ 4 (some a) cap, fun o h => absurd h List.not_mem_nil, Nat.zero_le maxLen⟩
    · have each : ∀ i, i < len → ∃ q : Hld, W.cell? (a.add (i * 4 + 0)) = some (.int .u32 (q.id.1 : Int)) ∧ W.cell? (a.add (i * 4 + 1)) = some (.int .i64 q.id.2) ∧ W.cell? (a.add (i * 4 + 2)) = some (.int .i64 q.uses) ∧ W.cell? (a.add (i * 4 + 3)) = some (.string (bs q.text)) ∧
          HldW q ∧ q.text.length ≤ maxLen := fun i hi' => by
        obtain ⟨cs, hc, ht⟩ := hi i (by omega)
        rw [k4] at hc
        obtain ⟨_, hcl, hat⟩ := World.cells?_some hc
        obtain ⟨x0, x1, x2, x3, rfl⟩ := four_ofH hcl
        obtain ⟨ys, n', _, _, _, _, hf⟩ := DataW.trod_struct hu ht
        have g0 := hf 0 f0 rfl
        have g1 := hf 1 f1 rfl
        have g2 := hf 2 f2 rfl
        rw [o0, t0, k2] at g0
        rw [o1, t1, ki] at g1
        rw [o2, t2, k1] at g2
        have hys : ys.length = 3 := by assumption
        obtain ⟨y0, y1, y2, rfl⟩ : ∃ a b c, ys = [a, b, c] := by
          match ys, hys with
          | [a, b, c], _ => exact ⟨a, b, c, rfl⟩
        obtain ⟨u1, q1, _, w1⟩ := DataW.trod_int Tryz.underlying3 (show DataW.trod enc Tryz.prog W base spare held n' 3 [x2] = some y1 from g1)
        obtain ⟨u0, q0, _, w0⟩ := DataW.trod_string Tryz.underlying9 (show DataW.trod enc Tryz.prog W base spare held n' 9 [x3] = some y2 from g2)
        obtain ⟨zs, n'', _, _, _, hzl, hg⟩ := DataW.trod_struct hiu (show DataW.trod enc Tryz.prog W base spare held n' 47 [x0, x1] = some y0 from g0)
        have j0 := hg 0 i0 rfl
        have j1 := hg 1 i1 rfl
        rw [p0, s0, ku] at j0
        rw [p1, s1, ki] at j1
        obtain ⟨z0, z1, rfl⟩ : ∃ a b, zs = [a, b] := by
          match zs, hzl with
          | [a, b], _ => exact ⟨a, b, rfl⟩
        obtain ⟨v2, q2, _, w2⟩ := DataW.trod_int Tryz.underlying45 (show DataW.trod enc Tryz.prog W base spare held n'' 45 [x0] = some z0 from j0)
        obtain ⟨v3, q3, _, w3⟩ := DataW.trod_int Tryz.underlying3 (show DataW.trod enc Tryz.prog W base spare held n'' 3 [x1] = some z1 from j1)
        simp only [List.cons.injEq, and_true] at q0 q1 q2 q3
        subst q0; subst q1; subst q2; subst q3
        have b2 := u32_bounds w2
        have b3 := i64_bounds w3
        have b1 := i64_bounds w1
        have a0 := hat 0 (by omega)
        have a1 := hat 1 (by omega)
        have a2 := hat 2 (by omega)
        have a3 := hat 3 (by omega)
        rw [Go.Deep.add_add] at a0 a1 a2 a3
        refine ⟨⟨(v2.toNat, v3), u1, u0.data.toList⟩, ?_, a1, a2, ?_, ⟨⟨by show v2.toNat < _; omega, b3.1, b3.2⟩, b1.1, b1.2⟩, by show u0.data.toList.length ≤ _; rw [← size_toList]; exact w0⟩
        · rw [a0]; show some (Value.int .u32 v2) = some (.int .u32 ((v2.toNat : Nat) : Int)); rw [show ((v2.toNat : Nat) : Int) = v2 by omega]
        · rw [a3]; show some (Value.string u0) = some (.string (bs u0.data.toList)); rw [bs_of]
      obtain ⟨F, hF⟩ := choose_lt each
      have hsp := spot_none (hF 0 h0).1
      have hll : ((List.range len).map fun i => F i).length = len := by simp
      obtain ⟨g, o, sp⟩ := a
      have hsp' : sp = none := by
        have := hsp
        unfold Addr.add at this
        split at this <;> simp_all
      subst hsp'
      refine ⟨(List.range len).map fun i => F i, ?_, fun q hq => ?_, by rw [hll]; omega⟩
      · have := RdL.of (w := W) (B := W.heap.size) (g := g) (o := o) (c := cap) (L := (List.range len).map fun i => F i) (by rw [hll]; exact hl) (by
          have := (hF 0 h0).1
          rw [Addr.add_lit] at this
          exact World.block_lt_of_cell? W _ this) (fun k hk => by
          have hk' : k < len := by rw [hll] at hk; exact hk
          obtain ⟨c0, c1, c2, c3, _⟩ := hF k hk'
          rw [Addr.add_lit] at c0 c1 c2 c3
          simp only [List.getElem_map, List.getElem_range]
          exact ⟨c0, by rw [Nat.add_assoc]; exact c1, by rw [Nat.add_assoc]; exact c2, by rw [Nat.add_assoc]; exact c3⟩)
        rw [hll] at this
        exact this
      · simp only [List.mem_map, List.mem_range] at hq
        obtain ⟨i, hi', rfl⟩ := hq
        obtain ⟨_, _, _, _, h1, h2⟩ := hF i hi'
        exact ⟨h1, h2⟩
instance inhRcpF : Inhabited Rcp := ⟨⟨[], 0, 0, []⟩⟩
instance inhLoadF : Inhabited Load := ⟨⟨(0, 0), []⟩⟩
set_option maxRecDepth 100000 in
theorem open_files {H : Type} {enc : TypeId × Value → H} {W : World} {base b0 : Nat} {spare : Nat → Bool} {held : Bool} {r : Reach} {v : Value} {d : DataW H} {ps : List MemPlace}
    (_ : Value.okWide Tryz.prog W r b0 61 v) (h : DataW.Trod enc Tryz.prog W base spare held 61 v d ps) :
    ∃ l : List Rcp, RsRd W W.heap.size v l ∧ (∀ x ∈ l, RcpO x) ∧ l.length ≤ maxLen := by
  obtain ⟨f0, f1, f2, f3, hu, hone, t0, t1, t2, t3⟩ := rcp_one
  obtain ⟨fuel, hf⟩ := h
  have hv1 : ∃ A len cap, v = .slice A len cap := okWide_slice Tryz.underlying61 ‹_›
  obtain ⟨A0, l0, c0, rfl⟩ := hv1
  have hf' : DataW.trod enc Tryz.prog W base spare held fuel 61 [.slice A0 l0 c0] = some (d, ps) := by simpa [Value.cells] using hf
  obtain ⟨A, len, cap, hv2, hlc, hcm, hx⟩ := open_rowsT (P := Tryz.prog) Tryz.underlying61 hu hone rcp_cells (by simp) hf'
  rw [hv2]
  rcases Nat.eq_zero_or_pos len with h0 | h0
  · subst h0
    exact ⟨[], ⟨A, cap, rfl, Nat.zero_le _, fun h => absurd h (Nat.lt_irrefl 0)⟩, fun o h => absurd h List.not_mem_nil, Nat.zero_le maxLen⟩
  · obtain ⟨g, o, rfl, hg, hc⟩ := hx h0
    have each : ∀ i, i < len → ∃ q : Rcp × Value, RdI W W.heap.size q.2 q.1.ids ∧ W.cell? ⟨g, o + i * 4, none⟩ = some (VT q.1.name) ∧ W.cell? ⟨g, o + i * 4 + 1, none⟩ = some (.int .i64 q.1.len) ∧ W.cell? ⟨g, o + i * 4 + 2, none⟩ = some (.int .u32 (q.1.print : Int)) ∧ W.cell? ⟨g, o + i * 4 + 3, none⟩ = some q.2 ∧ RcpO q.1 := fun i hi => by
      obtain ⟨v0, n0, y0, k0, h0⟩ := hc i hi 0 f0 rfl
      obtain ⟨v1, n1, y1, k1, h1⟩ := hc i hi 1 f1 rfl
      obtain ⟨v2, n2, y2, k2, h2⟩ := hc i hi 2 f2 rfl
      obtain ⟨v3, n3, y3, k3, h3⟩ := hc i hi 3 f3 rfl
      rw [t0] at h0; rw [t1] at h1; rw [t2] at h2; rw [t3] at h3
      obtain ⟨s0, q0, _, w0⟩ := DataW.trod_string Tryz.underlying9 h0
      obtain ⟨z1, q1, _, w1⟩ := DataW.trod_int Tryz.underlying3 h1
      obtain ⟨z2, q2, _, w2⟩ := DataW.trod_int Tryz.underlying45 h2
      obtain ⟨L, hL, hok, hll⟩ := open_ids h3
      simp only [List.cons.injEq, and_true] at q0 q1 q2
      subst q0; subst q1; subst q2
      have b1 := i64_bounds w1
      have b2 := u32_bounds w2
      simp only [List.size_toArray, List.length_cons, List.length_nil, Nat.zero_add, Nat.reduceAdd] at k0 k1 k2 k3
      refine ⟨(⟨s0.data.toList, z1, z2.toNat, L⟩, v3), hL, ?_, ?_, ?_, ?_, ⟨by show s0.data.toList.length ≤ _; rw [← size_toList]; exact w0, b1.1, b1.2, by show z2.toNat < _; omega, hll, hok⟩⟩
      · show _ = some (Value.string (bs s0.data.toList)); rw [bs_of]; simpa using k0
      · simpa [Nat.add_assoc] using k1
      · show _ = some (Value.int .u32 ((z2.toNat : Nat) : Int)); rw [show ((z2.toNat : Nat) : Int) = z2 by omega]; simpa [Nat.add_assoc] using k2
      · simpa [Nat.add_assoc] using k3
    obtain ⟨F, hF⟩ := choose_lt each
    have hll : ((List.range len).map fun i => (F i).1).length = len := by simp
    refine ⟨(List.range len).map fun i => (F i).1, ⟨_, cap, by rw [hll], by rw [hll]; exact hlc, fun _ => ⟨g, o, rfl, hg, fun k hk => ?_⟩⟩, fun q hq => ?_, by rw [hll]; omega⟩
    · have hk' : k < len := by rw [hll] at hk; exact hk
      obtain ⟨h1, c0, c1, c2, c3, _⟩ := hF k hk'
      simp only [List.getElem_map, List.getElem_range]
      exact ⟨(F k).2, h1, c0, c1, c2, c3⟩
    · simp only [List.mem_map, List.mem_range] at hq
      obtain ⟨i, hi, rfl⟩ := hq
      exact (hF i hi).2.2.2.2.2
theorem bof_one : ∃ f0 f1, Tryz.prog.underlying 70 = some (.struct #[f0, f1]) ∧ f0.type = 47 ∧ f1.type = 54 ∧ f0.offset = 0 ∧ f1.offset = 2 := ⟨_, _, Tryz.underlying70, by kernel_rfl, by kernel_rfl, by kernel_rfl, by kernel_rfl⟩
theorem bof_cells : Tryz.prog.cellsOf 70 = 3 ∧ Tryz.prog.cellsOf 47 = 2 ∧ Tryz.prog.cellsOf 54 = 1 ∧ Tryz.prog.cellsOf 45 = 1 ∧ Tryz.prog.cellsOf 3 = 1 := ⟨by kernel_rfl, by kernel_rfl, by kernel_rfl, by kernel_rfl, by kernel_rfl⟩
theorem three_of {α : Type} {l : List α} (h : l.length = 3) : ∃ a b c, l = [a, b, c] := by
  match l, h with
  | [a, b, c], _ => exact ⟨a, b, c, rfl⟩
/-- a load's numbers are Go's own -/
structure LdO (y : Load) : Prop where
  rep : IdOk y.rep
  len : y.l.length ≤ maxLen
  all : ∀ x ∈ y.l, HldW x ∧ x.text.length ≤ maxLen
set_option maxRecDepth 100000 in
theorem open_bins {H : Type} {enc : TypeId × Value → H} {W : World} {base b0 : Nat} {spare : Nat → Bool} {held : Bool} {r : Reach} {v : Value} {d : DataW H} {ps : List MemPlace}
    (hv : Value.okWide Tryz.prog W r b0 62 v) (h : DataW.Trod enc Tryz.prog W base spare held 62 v d ps) :
    ∃ l : List Load, LdRd W W.heap.size v l ∧ (∀ x ∈ l, LdO x) ∧ l.length ≤ maxLen := by
  obtain ⟨f0, f1, hu, t0, t1, o0, o1⟩ := bof_one
  obtain ⟨i0, i1, hiu, s0, s1, p0, p1⟩ := idh_one
  obtain ⟨k3, k2, k1, ku, ki⟩ := bof_cells
  obtain ⟨A, len, cap, rfl⟩ := okWide_slice Tryz.underlying62 hv
  obtain ⟨fuel, hf⟩ := h
  have hf' : DataW.trod enc Tryz.prog W base spare held fuel 62 [.slice A len cap] = some (d, ps) := by simpa [Value.cells] using hf
  rcases open_slice Tryz.underlying62 hf' with ⟨h1, _⟩ | ⟨a, len', cap', m, n, D, Pl, h1, _, hl, hm, hmm, _, hi⟩
  · simp only [List.cons.injEq, Value.slice.injEq, and_true] at h1
    obtain ⟨rfl, rfl, rfl⟩ := h1
    exact ⟨[], LdRd.nil _ _, fun o h => absurd h List.not_mem_nil, Nat.zero_le maxLen⟩
  · simp only [List.cons.injEq, Value.slice.injEq, and_true] at h1
    obtain ⟨rfl, rfl, rfl⟩ := h1
    have hlm : len ≤ m := by rw [hmm]; split <;> omega
    rcases Nat.eq_zero_or_pos len with h0 | h0
    · subst h0
      exact ⟨[], ⟨some a, cap, rfl, Nat.zero_le _, fun h => absurd h (Nat.lt_irrefl 0)⟩, fun o h => absurd h List.not_mem_nil, Nat.zero_le maxLen⟩
    · have each : ∀ i, i < len → ∃ q : Load × Value, W.cell? (a.add (i * 3 + 0)) = some (.int .u32 (q.1.rep.1 : Int)) ∧ W.cell? (a.add (i * 3 + 1)) = some (.int .i64 q.1.rep.2) ∧ W.cell? (a.add (i * 3 + 2)) = some q.2 ∧ RdL W W.heap.size q.2 q.1.l ∧ LdO q.1 := fun i hi' => by
        obtain ⟨cs, hc, ht⟩ := hi i (by omega)
        rw [k3] at hc
        obtain ⟨_, hcl, hat⟩ := World.cells?_some hc
        obtain ⟨x0, x1, x2, rfl⟩ := three_of hcl
        obtain ⟨ys, n', _, _, _, hyl, hf⟩ := DataW.trod_struct hu ht
        have g0 := hf 0 f0 rfl
        have g1 := hf 1 f1 rfl
        rw [o0, t0, k2] at g0
        rw [o1, t1, k1] at g1
        obtain ⟨y0, y1, rfl⟩ : ∃ a b, ys = [a, b] := by
          match ys, hyl with
          | [a, b], _ => exact ⟨a, b, rfl⟩
        obtain ⟨L, hL, hLw, hLl⟩ := helds_of (show DataW.trod enc Tryz.prog W base spare held n' 54 [x2] = some y1 from g1)
        obtain ⟨zs, n'', _, _, _, hzl, hg⟩ := DataW.trod_struct hiu (show DataW.trod enc Tryz.prog W base spare held n' 47 [x0, x1] = some y0 from g0)
        have j0 := hg 0 i0 rfl
        have j1 := hg 1 i1 rfl
        rw [p0, s0, ku] at j0
        rw [p1, s1, ki] at j1
        obtain ⟨z0, z1, rfl⟩ : ∃ a b, zs = [a, b] := by
          match zs, hzl with
          | [a, b], _ => exact ⟨a, b, rfl⟩
        obtain ⟨v2, q2, _, w2⟩ := DataW.trod_int Tryz.underlying45 (show DataW.trod enc Tryz.prog W base spare held n'' 45 [x0] = some z0 from j0)
        obtain ⟨v3, q3, _, w3⟩ := DataW.trod_int Tryz.underlying3 (show DataW.trod enc Tryz.prog W base spare held n'' 3 [x1] = some z1 from j1)
        simp only [List.cons.injEq, and_true] at q2 q3
        subst q2; subst q3
        have b2 := u32_bounds w2
        have b3 := i64_bounds w3
        have a0 := hat 0 (by omega)
        have a1 := hat 1 (by omega)
        have a2 := hat 2 (by omega)
        rw [Go.Deep.add_add] at a0 a1 a2
        refine ⟨(⟨(v2.toNat, v3), L⟩, x2), ?_, a1, a2, hL, ⟨⟨by show v2.toNat < _; omega, b3.1, b3.2⟩, hLl, hLw⟩⟩
        rw [a0]; show some (Value.int .u32 v2) = some (.int .u32 ((v2.toNat : Nat) : Int)); rw [show ((v2.toNat : Nat) : Int) = v2 by omega]
      obtain ⟨F, hF⟩ := choose_lt each
      have hsp := spot_none (hF 0 h0).1
      have hll : ((List.range len).map fun i => (F i).1).length = len := by simp
      obtain ⟨g, o, sp⟩ := a
      have hsp' : sp = none := by
        have := hsp
        unfold Addr.add at this
        split at this <;> simp_all
      subst hsp'
      refine ⟨(List.range len).map fun i => (F i).1, ⟨some ⟨g, o, none⟩, cap, by rw [hll], by rw [hll]; exact hl, fun _ => ⟨g, o, rfl, ?_, fun k hk => ?_⟩⟩, fun q hq => ?_, by rw [hll]; omega⟩
      · have := (hF 0 h0).1
        rw [Addr.add_lit] at this
        exact World.block_lt_of_cell? W _ this
      · have hk' : k < len := by rw [hll] at hk; exact hk
        obtain ⟨c0, c1, c2, h1, _⟩ := hF k hk'
        rw [Addr.add_lit] at c0 c1 c2
        simp only [List.getElem_map, List.getElem_range]
        exact ⟨(F k).2, h1, by simpa [Nat.add_assoc] using c0, by simpa [Nat.add_assoc] using c1, by simpa [Nat.add_assoc] using c2⟩
      · simp only [List.mem_map, List.mem_range] at hq
        obtain ⟨i, hi', rfl⟩ := hq
        exact (hF i hi').2.2.2.2
end Go.Proofs.YtpanoplcamdnkaaGreatDoor

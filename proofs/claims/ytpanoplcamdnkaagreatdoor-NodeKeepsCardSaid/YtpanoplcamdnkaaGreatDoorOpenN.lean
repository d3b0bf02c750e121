/- An argument that is a slice of acts on a node is opened. No conditions. -/
import Derived.Test.YtpanoplcamdnkaaGreatDoorOpenS
import Derived.Test.YtpanoplcamdnkaaGreatDoorOpenI
import Derived.Test.YtpanoplcamdnkaaGreatDoorPlainA
import Derived.ChangeArms
import Derived.Deep.LoopGhost
namespace Go.Proofs.YtpanoplcamdnkaaGreatDoor
open Go.RowKit Go.ChangeShapes Go.WideShapes Go.Deep

structure ActN where
  kind : Bytes
  nm : Bytes
  s : Bytes
def ActNRd (w : World) (B : Nat) (v : Value) (l : List ActN) : Prop :=
  ∃ A c, v = .slice A l.length c ∧ l.length ≤ c ∧ (0 < l.length → ∃ g o, A = some ⟨g, o, none⟩ ∧ g < B ∧ ∀ k (hk : k < l.length),
    w.cell? ⟨g, o + k * 3, none⟩ = some (.string (bs l[k].kind)) ∧ w.cell? ⟨g, o + k * 3 + 1, none⟩ = some (.string (bs l[k].nm)) ∧ w.cell? ⟨g, o + k * 3 + 2, none⟩ = some (.string (bs l[k].s)))
theorem ActNRd.below {w w' : World} {B : Nat} {v : Value} {l : List ActN} (h : ActNRd w B v l) (hb : Below B w w') : ActNRd w' B v l := by
  obtain ⟨A, c, hv, hc, hx⟩ := h
  refine ⟨A, c, hv, hc, fun h0 => ?_⟩
  obtain ⟨g, o, hA, hg, hcell⟩ := hx h0
  exact ⟨g, o, hA, hg, fun k hk => by
    obtain ⟨c0, c1, c2⟩ := hcell k hk
    exact ⟨(hb.cell (p := ⟨g, o + k * 3, none⟩) hg).trans c0, (hb.cell (p := ⟨g, o + k * 3 + 1, none⟩) hg).trans c1, (hb.cell (p := ⟨g, o + k * 3 + 2, none⟩) hg).trans c2⟩⟩
theorem actN_one : ∃ f0 f1 f2, Tryz.prog.underlying 29 = some (.struct #[f0, f1, f2]) ∧ f0.type = 9 ∧ f1.type = 9 ∧ f2.type = 9 ∧ f0.offset = 0 ∧ f1.offset = 1 ∧ f2.offset = 2 := ⟨_, _, _, Tryz.underlying29, by kernel_rfl, by kernel_rfl, by kernel_rfl, by kernel_rfl, by kernel_rfl, by kernel_rfl⟩
theorem actN_cells : Tryz.prog.cellsOf 29 = 3 ∧ Tryz.prog.cellsOf 9 = 1 := ⟨by kernel_rfl, by kernel_rfl⟩
set_option maxRecDepth 100000 in
theorem open_actNs {H : Type} {enc : TypeId × Value → H} {W : World} {base b0 : Nat} {spare : Nat → Bool} {held : Bool} {r : Reach} {v : Value} {d : DataW H} {ps : List MemPlace}
    (hv : Value.okWide Tryz.prog W r b0 22 v) (h : DataW.Trod enc Tryz.prog W base spare held 22 v d ps) :
    ∃ l : List ActN, ActNRd W W.heap.size v l ∧ (∀ x ∈ l, x.kind.length ≤ maxLen ∧ x.nm.length ≤ maxLen ∧ x.s.length ≤ maxLen) ∧ l.length ≤ maxLen := by
  obtain ⟨f0, f1, f2, hu, t0, t1, t2, o0, o1, o2⟩ := actN_one
  obtain ⟨k4, k1⟩ := actN_cells
  obtain ⟨A, len, cap, rfl⟩ := okWide_slice Tryz.underlying22 hv
  obtain ⟨fuel, hf⟩ := h
  have hf' : DataW.trod enc Tryz.prog W base spare held fuel 22 [.slice A len cap] = some (d, ps) := by simpa [Value.cells] using hf
  rcases open_slice Tryz.underlying22 hf' with ⟨h1, _⟩ | ⟨a, len', cap', m, n, D, Pl, h1, _, hl, hm, hmm, _, hi⟩
  · simp only [List.cons.injEq, Value.slice.injEq, and_true] at h1
    obtain ⟨rfl, rfl, rfl⟩ := h1
    exact ⟨[], ⟨none, 0, rfl, Nat.le_refl _, fun h => absurd h (Nat.lt_irrefl 0)⟩, fun o h => absurd h List.not_mem_nil, Nat.zero_le maxLen⟩
  · simp only [List.cons.injEq, Value.slice.injEq, and_true] at h1
    obtain ⟨rfl, rfl, rfl⟩ := h1
    have hlm : len ≤ m := by rw [hmm]; split <;> omega
    rcases Nat.eq_zero_or_pos len with h0 | h0
    · subst h0
      exact ⟨[], ⟨some a, cap, rfl, hl, fun h => absurd h (Nat.lt_irrefl 0)⟩, fun o h => absurd h List.not_mem_nil, Nat.zero_le maxLen⟩
    · have each : ∀ i, i < len → ∃ q : Bytes × Bytes × Bytes, W.cell? (a.add (i * 3 + 0)) = some (.string (bs q.1)) ∧ W.cell? (a.add (i * 3 + 1)) = some (.string (bs q.2.1)) ∧ W.cell? (a.add (i * 3 + 2)) = some (.string (bs q.2.2)) ∧
          q.1.length ≤ maxLen ∧ q.2.1.length ≤ maxLen ∧ q.2.2.length ≤ maxLen := fun i hi' => by
        obtain ⟨cs, hc, ht⟩ := hi i (by omega)
        rw [k4] at hc
        obtain ⟨_, hcl, hat⟩ := World.cells?_some hc
        obtain ⟨x0, x1, x2, rfl⟩ : ∃ a b c, cs = [a, b, c] := by
          match cs, hcl with
          | [a, b, c], _ => exact ⟨a, b, c, rfl⟩
        obtain ⟨ys, n', _, _, _, _, hf⟩ := DataW.trod_struct hu ht
        have g0 := hf 0 f0 rfl
        have g1 := hf 1 f1 rfl
        have g2 := hf 2 f2 rfl
        rw [o0, t0, k1] at g0
        rw [o1, t1, k1] at g1
        rw [o2, t2, k1] at g2
        have hys : ys.length = 3 := by assumption
        obtain ⟨y0, y1, y2, rfl⟩ : ∃ a b c, ys = [a, b, c] := by
          match ys, hys with
          | [a, b, c], _ => exact ⟨a, b, c, rfl⟩
        obtain ⟨u0, q0, _, w0⟩ := DataW.trod_string Tryz.underlying9 (show DataW.trod enc Tryz.prog W base spare held n' 9 [x0] = some y0 from g0)
        obtain ⟨u1, q1, _, w1⟩ := DataW.trod_string Tryz.underlying9 (show DataW.trod enc Tryz.prog W base spare held n' 9 [x1] = some y1 from g1)
        obtain ⟨u2, q2, _, w2⟩ := DataW.trod_string Tryz.underlying9 (show DataW.trod enc Tryz.prog W base spare held n' 9 [x2] = some y2 from g2)
        simp only [List.cons.injEq, and_true] at q0 q1 q2
        subst q0; subst q1; subst q2
        have a0 := hat 0 (by omega)
        have a1 := hat 1 (by omega)
        have a2 := hat 2 (by omega)
        rw [Go.Deep.add_add] at a0 a1 a2
        refine ⟨(u0.data.toList, u1.data.toList, u2.data.toList), ?_, ?_, ?_, by rw [← size_toList]; exact w0, by rw [← size_toList]; exact w1, by rw [← size_toList]; exact w2⟩
        · rw [a0]; show some (Value.string u0) = some (.string (bs u0.data.toList)); rw [bs_of]
        · rw [a1]; show some (Value.string u1) = some (.string (bs u1.data.toList)); rw [bs_of]
        · rw [a2]; show some (Value.string u2) = some (.string (bs u2.data.toList)); rw [bs_of]
      obtain ⟨F, hF⟩ := choose_lt each
      have hsp := spot_none (hF 0 h0).1
      have hll : ((List.range len).map fun i => (⟨(F i).1, (F i).2.1, (F i).2.2⟩ : ActN)).length = len := by simp
      obtain ⟨g, o, sp⟩ := a
      have hsp' : sp = none := by
        have := hsp
        unfold Addr.add at this
        split at this <;> simp_all
      subst hsp'
      refine ⟨(List.range len).map fun i => ⟨(F i).1, (F i).2.1, (F i).2.2⟩, ⟨_, cap, by rw [hll], by rw [hll]; exact hl, fun _ => ⟨g, o, rfl, ?_, fun k hk => ?_⟩⟩, fun q hq => ?_, by rw [hll]; omega⟩
      · have := (hF 0 h0).1
        rw [Addr.add_lit] at this
        exact World.block_lt_of_cell? W _ this
      · have hk' : k < len := by rw [hll] at hk; exact hk
        obtain ⟨c0, c1, c2, _⟩ := hF k hk'
        rw [Addr.add_lit] at c0 c1 c2
        simp only [List.getElem_map, List.getElem_range]
        exact ⟨c0, c1, c2⟩
      · simp only [List.mem_map, List.mem_range] at hq
        obtain ⟨i, hi', rfl⟩ := hq
        obtain ⟨_, _, _, h1, h2, h3⟩ := hF i hi'
        exact ⟨h1, h2, h3⟩
end Go.Proofs.YtpanoplcamdnkaaGreatDoor

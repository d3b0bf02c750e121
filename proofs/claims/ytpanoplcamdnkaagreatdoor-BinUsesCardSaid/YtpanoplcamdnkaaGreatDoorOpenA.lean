/- An argument that is a slice of acts on a bin is opened; walk of longActs. No conditions. -/
import Derived.Test.YtpanoplcamdnkaaGreatDoorOpenS
import Derived.Test.YtpanoplcamdnkaaGreatDoorOpenI
import Derived.Test.YtpanoplcamdnkaaGreatDoorPlainB
import Derived.ChangeArms
import Derived.Deep.LoopGhost
namespace Go.Proofs.YtpanoplcamdnkaaGreatDoor
open Go.RowKit Go.ChangeShapes Go.WideShapes Go.Deep

structure ActB where
  kind : Bytes
  s : Bytes
  id : Idn
def ActRd (w : World) (B : Nat) (v : Value) (l : List ActB) : Prop :=
  ∃ A c, v = .slice A l.length c ∧ l.length ≤ c ∧ (0 < l.length → ∃ g o, A = some ⟨g, o, none⟩ ∧ g < B ∧ ∀ k (hk : k < l.length),
    w.cell? ⟨g, o + (k * 4 + 0), none⟩ = some (.string (bs l[k].kind)) ∧ w.cell? ⟨g, o + (k * 4 + 1), none⟩ = some (.string (bs l[k].s)) ∧ w.cell? ⟨g, o + (k * 4 + 2), none⟩ = some (.int .u32 (l[k].id.1 : Int)) ∧ w.cell? ⟨g, o + (k * 4 + 3), none⟩ = some (.int .i64 l[k].id.2))
theorem act_one : ∃ f0 f1 f2, Tryz.prog.underlying 49 = some (.struct #[f0, f1, f2]) ∧ f0.type = 9 ∧ f1.type = 9 ∧ f2.type = 47 ∧ f0.offset = 0 ∧ f1.offset = 1 ∧ f2.offset = 2 := ⟨_, _, _, Tryz.underlying49, by kernel_rfl, by kernel_rfl, by kernel_rfl, by kernel_rfl, by kernel_rfl, by kernel_rfl⟩
theorem ida_one : ∃ f0 f1, Tryz.prog.underlying 47 = some (.struct #[f0, f1]) ∧ f0.type = 45 ∧ f1.type = 3 ∧ f0.offset = 0 ∧ f1.offset = 1 := ⟨_, _, Tryz.underlying47, by kernel_rfl, by kernel_rfl, by kernel_rfl, by kernel_rfl⟩
theorem act_cells : Tryz.prog.cellsOf 49 = 4 ∧ Tryz.prog.cellsOf 9 = 1 ∧ Tryz.prog.cellsOf 47 = 2 ∧ Tryz.prog.cellsOf 45 = 1 ∧ Tryz.prog.cellsOf 3 = 1 := ⟨by kernel_rfl, by kernel_rfl, by kernel_rfl, by kernel_rfl, by kernel_rfl⟩
theorem four_of {α : Type} {l : List α} (h : l.length = 4) : ∃ a b c d, l = [a, b, c, d] := by
  match l, h with
  | [a, b, c, d], _ => exact ⟨a, b, c, d, rfl⟩
set_option maxRecDepth 100000 in
theorem open_acts {H : Type} {enc : TypeId × Value → H} {W : World} {base b0 : Nat} {spare : Nat → Bool} {held : Bool} {r : Reach} {v : Value} {d : DataW H} {ps : List MemPlace}
    (hv : Value.okWide Tryz.prog W r b0 40 v) (h : DataW.Trod enc Tryz.prog W base spare held 40 v d ps) :
    ∃ l : List ActB, ActRd W W.heap.size v l ∧ (∀ x ∈ l, x.kind.length ≤ maxLen ∧ x.s.length ≤ maxLen ∧ IdOk x.id) ∧ l.length ≤ maxLen := by
  obtain ⟨f0, f1, f2, hu, t0, t1, t2, o0, o1, o2⟩ := act_one
  obtain ⟨i0, i1, hiu, s0, s1, p0, p1⟩ := ida_one
  obtain ⟨k4, k1, k2, ku, ki⟩ := act_cells
  obtain ⟨A, len, cap, rfl⟩ := okWide_slice Tryz.underlying40 hv
  obtain ⟨fuel, hf⟩ := h
  have hf' : DataW.trod enc Tryz.prog W base spare held fuel 40 [.slice A len cap] = some (d, ps) := by simpa [Value.cells] using hf
  rcases open_slice Tryz.underlying40 hf' with ⟨h1, _⟩ | ⟨a, len', cap', m, n, D, Pl, h1, _, hl, hm, hmm, _, hi⟩
  · simp only [List.cons.injEq, Value.slice.injEq, and_true] at h1
    obtain ⟨rfl, rfl, rfl⟩ := h1
    exact ⟨[], ⟨none, 0, rfl, Nat.le_refl _, fun h => absurd h (Nat.lt_irrefl 0)⟩, fun o h => absurd h List.not_mem_nil, Nat.zero_le maxLen⟩
  · simp only [List.cons.injEq, Value.slice.injEq, and_true] at h1
    obtain ⟨rfl, rfl, rfl⟩ := h1
    have hlm : len ≤ m := by rw [hmm]; split <;> omega
    rcases Nat.eq_zero_or_pos len with h0 | h0
    · subst h0
      exact ⟨[], ⟨some a, cap, rfl, hl, fun h => absurd h (Nat.lt_irrefl 0)⟩, fun o h => absurd h List.not_mem_nil, Nat.zero_le maxLen⟩
    · have each : ∀ i, i < len → ∃ q : Bytes × Bytes × Idn, W.cell? (a.add (i * 4 + 0)) = some (.string (bs q.1)) ∧ W.cell? (a.add (i * 4 + 1)) = some (.string (bs q.2.1)) ∧ W.cell? (a.add (i * 4 + 2)) = some (.int .u32 (q.2.2.1 : Int)) ∧ W.cell? (a.add (i * 4 + 3)) = some (.int .i64 q.2.2.2) ∧
          q.1.length ≤ maxLen ∧ q.2.1.length ≤ maxLen ∧ IdOk q.2.2 := fun i hi' => by
        obtain ⟨cs, hc, ht⟩ := hi i (by omega)
        rw [k4] at hc
        obtain ⟨_, hcl, hat⟩ := World.cells?_some hc
        obtain ⟨x0, x1, x2, x3, rfl⟩ := four_of hcl
        obtain ⟨ys, n', _, _, _, _, hf⟩ := DataW.trod_struct hu ht
        have g0 := hf 0 f0 rfl
        have g1 := hf 1 f1 rfl
        have g2 := hf 2 f2 rfl
        rw [o0, t0, k1] at g0
        rw [o1, t1, k1] at g1
        rw [o2, t2, k2] at g2
        have hys : ys.length = 3 := by assumption
        obtain ⟨y0, y1, y2, rfl⟩ : ∃ a b c, ys = [a, b, c] := by
          match ys, hys with
          | [a, b, c], _ => exact ⟨a, b, c, rfl⟩
        obtain ⟨u0, q0, _, w0⟩ := DataW.trod_string Tryz.underlying9 (show DataW.trod enc Tryz.prog W base spare held n' 9 [x0] = some y0 from g0)
        obtain ⟨u1, q1, _, w1⟩ := DataW.trod_string Tryz.underlying9 (show DataW.trod enc Tryz.prog W base spare held n' 9 [x1] = some y1 from g1)
        obtain ⟨zs, n'', _, _, _, hzl, hg⟩ := DataW.trod_struct hiu (show DataW.trod enc Tryz.prog W base spare held n' 47 [x2, x3] = some y2 from g2)
        have j0 := hg 0 i0 rfl
        have j1 := hg 1 i1 rfl
        rw [p0, s0, ku] at j0
        rw [p1, s1, ki] at j1
        obtain ⟨z0, z1, rfl⟩ : ∃ a b, zs = [a, b] := by
          match zs, hzl with
          | [a, b], _ => exact ⟨a, b, rfl⟩
        obtain ⟨v2, q2, _, w2⟩ := DataW.trod_int Tryz.underlying45 (show DataW.trod enc Tryz.prog W base spare held n'' 45 [x2] = some z0 from j0)
        obtain ⟨v3, q3, _, w3⟩ := DataW.trod_int Tryz.underlying3 (show DataW.trod enc Tryz.prog W base spare held n'' 3 [x3] = some z1 from j1)
        simp only [List.cons.injEq, and_true] at q0 q1 q2 q3
        subst q0; subst q1; subst q2; subst q3
        have b2 := u32_bounds w2
        have b3 := i64_bounds w3
        have a0 := hat 0 (by omega)
        have a1 := hat 1 (by omega)
        have a2 := hat 2 (by omega)
        have a3 := hat 3 (by omega)
        rw [Go.Deep.add_add] at a0 a1 a2 a3
        refine ⟨(u0.data.toList, u1.data.toList, v2.toNat, v3), ?_, ?_, ?_, a3, by rw [← size_toList]; exact w0, by rw [← size_toList]; exact w1, by show v2.toNat < _; omega, b3.1, b3.2⟩
        · rw [a0]; show some (Value.string u0) = some (.string (bs u0.data.toList)); rw [bs_of]
        · rw [a1]; show some (Value.string u1) = some (.string (bs u1.data.toList)); rw [bs_of]
        · rw [a2]; show some (Value.int .u32 v2) = some (.int .u32 ((v2.toNat : Nat) : Int)); rw [show ((v2.toNat : Nat) : Int) = v2 by omega]
      obtain ⟨F, hF⟩ := choose_lt each
      have hsp := spot_none (hF 0 h0).1
      have hll : ((List.range len).map fun i => (⟨(F i).1, (F i).2.1, (F i).2.2⟩ : ActB)).length = len := by simp
      obtain ⟨g, o, sp⟩ := a
      have hsp' : sp = none := by
        have := hsp
        unfold Addr.add at this
        split at this <;> simp_all
      subst hsp'
      refine ⟨(List.range len).map fun i => ⟨(F i).1, (F i).2.1, (F i).2.2⟩, ⟨_, cap, by rw [hll], by rw [hll]; exact hl, fun _ => ⟨g, o, rfl, ?_, fun k hk => ?_⟩⟩, fun q hq => ?_, by rw [hll]; omega⟩
      · have := (hF 0 h0).1
        rw [Addr.add_lit] at this
        exact World.block_lt_of_cell? W _ this
      · have hk' : k < len := by rw [hll] at hk; exact hk
        obtain ⟨c0, c1, c2, c3, _⟩ := hF k hk'
        rw [Addr.add_lit] at c0 c1 c2 c3
        simp only [List.getElem_map, List.getElem_range]
        exact ⟨c0, c1, c2, c3⟩
      · simp only [List.mem_map, List.mem_range] at hq
        obtain ⟨i, hi', rfl⟩ := hq
        obtain ⟨_, _, _, _, h1, h2, h3⟩ := hF i hi'
        exact ⟨h1, h2, h3⟩
end Go.Proofs.YtpanoplcamdnkaaGreatDoor

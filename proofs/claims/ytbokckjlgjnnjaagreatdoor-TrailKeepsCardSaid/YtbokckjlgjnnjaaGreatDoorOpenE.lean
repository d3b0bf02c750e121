/- Arguments that are an entry, or a trail, are opened. No conditions. -/
import Derived.Test.YtbokckjlgjnnjaaGreatDoorOpenR
import Derived.Test.YtbokckjlgjnnjaaGreatDoorOpenS
import Derived.Test.YtbokckjlgjnnjaaGreatDoorTrX
import Derived.ChangeArms
namespace Go.Proofs.YtbokckjlgjnnjaaGreatDoor
open Go.RowKit Go.ChangeShapes Go.WideShapes Go.Deep

theorem ent_one : ∃ f0 f1, Tryz.prog.underlying 42 = some (.struct #[f0, f1]) ∧ f0.type = 3 ∧ f1.type = 36 ∧ f0.offset = 0 ∧ f1.offset = 1 := ⟨_, _, Tryz.underlying42, by kernel_rfl, by kernel_rfl, by kernel_rfl, by kernel_rfl⟩
theorem rce_one : ∃ g0 g1 g2 g3, Tryz.prog.underlying 36 = some (.struct #[g0, g1, g2, g3]) ∧ g0.type = 9 ∧ g1.type = 3 ∧ g2.type = 33 ∧ g3.type = 34 ∧ g0.offset = 0 ∧ g1.offset = 1 ∧ g2.offset = 2 ∧ g3.offset = 3 :=
  ⟨_, _, _, _, Tryz.underlying36, by kernel_rfl, by kernel_rfl, by kernel_rfl, by kernel_rfl, by kernel_rfl, by kernel_rfl, by kernel_rfl, by kernel_rfl⟩
theorem ent_cells : Tryz.prog.cellsOf 42 = 5 ∧ Tryz.prog.cellsOf 9 = 1 ∧ Tryz.prog.cellsOf 36 = 4 ∧ Tryz.prog.cellsOf 33 = 1 ∧ Tryz.prog.cellsOf 3 = 1 ∧ Tryz.prog.cellsOf 34 = 1 := ⟨by kernel_rfl, by kernel_rfl, by kernel_rfl, by kernel_rfl, by kernel_rfl, by kernel_rfl⟩
theorem five_of {α : Type} {l : List α} (h : l.length = 5) : ∃ a b c d e, l = [a, b, c, d, e] := by
  match l, h with
  | [a, b, c, d, e], _ => exact ⟨a, b, c, d, e, rfl⟩
/-- what an entry's cells read as -/
structure EntC (W : World) (e : Ent) (x0 x1 x2 x3 x4 : Value) : Prop where
  c0 : x0 = .int .i64 e.day
  c1 : x1 = VT e.r.name
  c2 : x2 = .int .i64 e.r.len
  c3 : x3 = .int .u32 (e.r.print : Int)
  i : RdI W W.heap.size x4 e.r.ids
  o : EntO e
set_option maxRecDepth 100000 in
theorem ent_of {H : Type} {enc : TypeId × Value → H} {W : World} {base : Nat} {spare : Nat → Bool} {held : Bool} {fuel : Nat} {x0 x1 x2 x3 x4 : Value} {y : DataW H × List MemPlace}
    (h : DataW.trod enc Tryz.prog W base spare held fuel 42 [x0, x1, x2, x3, x4] = some y) : ∃ e : Ent, EntC W e x0 x1 x2 x3 x4 := by
  obtain ⟨f0, f1, hu, t0, t1, o0, o1⟩ := ent_one
  obtain ⟨g0, g1, g2, g3, hv, s0, s1, s2, s3, p0, p1, p2, p3⟩ := rce_one
  obtain ⟨k5, k1, k4, ku, ki, kl⟩ := ent_cells
  obtain ⟨ys, n', _, _, _, hyl, hf⟩ := DataW.trod_struct hu h
  have j0 := hf 0 f0 rfl
  have j1 := hf 1 f1 rfl
  rw [o0, t0, ki] at j0
  rw [o1, t1, k4] at j1
  obtain ⟨y0, y1, rfl⟩ : ∃ a b, ys = [a, b] := by
    match ys, hyl with
    | [a, b], _ => exact ⟨a, b, rfl⟩
  obtain ⟨z0, q0, _, w0⟩ := DataW.trod_int Tryz.underlying3 (show DataW.trod enc Tryz.prog W base spare held n' 3 [x0] = some y0 from j0)
  obtain ⟨zs, n'', _, _, _, hzl, hg⟩ := DataW.trod_struct hv (show DataW.trod enc Tryz.prog W base spare held n' 36 [x1, x2, x3, x4] = some y1 from j1)
  have m0 := hg 0 g0 rfl
  have m1 := hg 1 g1 rfl
  have m2 := hg 2 g2 rfl
  have m3 := hg 3 g3 rfl
  rw [p0, s0, k1] at m0
  rw [p1, s1, ki] at m1
  rw [p2, s2, ku] at m2
  rw [p3, s3, kl] at m3
  obtain ⟨b0, b1, b2, b3, rfl⟩ : ∃ a b c d, zs = [a, b, c, d] := by
    match zs, hzl with
    | [a, b, c, d], _ => exact ⟨a, b, c, d, rfl⟩
  obtain ⟨u0, r0, _, v0⟩ := DataW.trod_string Tryz.underlying9 (show DataW.trod enc Tryz.prog W base spare held n'' 9 [x1] = some b0 from m0)
  obtain ⟨u1, r1, _, v1⟩ := DataW.trod_int Tryz.underlying3 (show DataW.trod enc Tryz.prog W base spare held n'' 3 [x2] = some b1 from m1)
  obtain ⟨u2, r2, _, v2⟩ := DataW.trod_int Tryz.underlying33 (show DataW.trod enc Tryz.prog W base spare held n'' 33 [x3] = some b2 from m2)
  obtain ⟨L, hL, hok, hll⟩ := open_ids (show DataW.trod enc Tryz.prog W base spare held n'' 34 [x4] = some b3 from m3)
  simp only [List.cons.injEq, and_true] at q0 r0 r1 r2
  subst q0; subst r0; subst r1; subst r2
  have e0 := i64_bounds w0
  have e1 := i64_bounds v1
  have e2 := u32_bounds v2
  refine ⟨⟨z0, ⟨u0.data.toList, u1, u2.toNat, L⟩⟩, ⟨rfl, ?_, rfl, ?_, hL, ⟨e0.1, e0.2, ⟨by show u0.data.toList.length ≤ _; rw [← size_toList]; exact v0, e1.1, e1.2, by show u2.toNat < _; omega, hll, hok⟩⟩⟩⟩
  · show Value.string u0 = .string (bs u0.data.toList); rw [bs_of]
  · show Value.int .u32 u2 = .int .u32 ((u2.toNat : Nat) : Int); rw [show ((u2.toNat : Nat) : Int) = u2 by omega]
set_option maxRecDepth 100000 in
theorem open_trail {H : Type} {enc : TypeId × Value → H} {W : World} {base b0 : Nat} {spare : Nat → Bool} {held : Bool} {r : Reach} {v : Value} {d : DataW H} {ps : List MemPlace}
    (hv : Value.okWide Tryz.prog W r b0 22 v) (h : DataW.Trod enc Tryz.prog W base spare held 22 v d ps) :
    ∃ l : EntL, RdT W W.heap.size v l ∧ (∀ x ∈ l, EntO x) ∧ l.length ≤ maxLen := by
  obtain ⟨k5, _⟩ := ent_cells
  obtain ⟨A, len, cap, rfl⟩ := okWide_slice Tryz.underlying22 hv
  obtain ⟨fuel, hf⟩ := h
  have hf' : DataW.trod enc Tryz.prog W base spare held fuel 22 [.slice A len cap] = some (d, ps) := by simpa [Value.cells] using hf
  rcases open_slice Tryz.underlying22 hf' with ⟨h1, _⟩ | ⟨a, len', cap', m, n, D, Pl, h1, _, hl, hm, hmm, _, hi⟩
  · simp only [List.cons.injEq, Value.slice.injEq, and_true] at h1
    obtain ⟨rfl, rfl, rfl⟩ := h1
    exact ⟨[], RdT.nil _ _, fun o h => absurd h List.not_mem_nil, Nat.zero_le maxLen⟩
  · simp only [List.cons.injEq, Value.slice.injEq, and_true] at h1
    obtain ⟨rfl, rfl, rfl⟩ := h1
    have hlm : len ≤ m := by rw [hmm]; split <;> omega
    rcases Nat.eq_zero_or_pos len with h0 | h0
    · subst h0
      exact ⟨[], ⟨[], rfl, ⟨⟨some a, cap, rfl, rfl, hl, fun h => absurd h (Nat.lt_irrefl 0)⟩, fun _ h => absurd h List.not_mem_nil⟩⟩, fun o h => absurd h List.not_mem_nil, Nat.zero_le maxLen⟩
    · have each : ∀ i, i < len → ∃ q : EntX, W.cell? (a.add (i * 5 + 0)) = some (.int .i64 q.1.day) ∧ W.cell? (a.add (i * 5 + 1)) = some (VT q.1.r.name) ∧ W.cell? (a.add (i * 5 + 2)) = some (.int .i64 q.1.r.len) ∧ W.cell? (a.add (i * 5 + 3)) = some (.int .u32 (q.1.r.print : Int)) ∧ W.cell? (a.add (i * 5 + 4)) = some q.2 ∧
          RdI W W.heap.size q.2 q.1.r.ids ∧ EntO q.1 := fun i hi' => by
        obtain ⟨cs, hc, ht⟩ := hi i (by omega)
        rw [k5] at hc
        obtain ⟨_, hcl, hat⟩ := World.cells?_some hc
        obtain ⟨x0, x1, x2, x3, x4, rfl⟩ := five_of hcl
        obtain ⟨e, he⟩ := ent_of ht
        have a0 := hat 0 (by omega)
        have a1 := hat 1 (by omega)
        have a2 := hat 2 (by omega)
        have a3 := hat 3 (by omega)
        have a4 := hat 4 (by omega)
        rw [Go.Deep.add_add] at a0 a1 a2 a3 a4
        exact ⟨(e, x4), by rw [← he.c0]; exact a0, by rw [← he.c1]; exact a1, by rw [← he.c2]; exact a2, by rw [← he.c3]; exact a3, a4, he.i, he.o⟩
      obtain ⟨F, hF⟩ := choose_lt each
      have hsp := spot_none (hF 0 h0).1
      have hll : ((List.range len).map fun i => F i).length = len := by simp
      obtain ⟨g, o, sp⟩ := a
      have hsp' : sp = none := by
        have := hsp
        unfold Addr.add at this
        split at this <;> simp_all
      subst hsp'
      refine ⟨((List.range len).map fun i => F i).map (·.1), ⟨(List.range len).map fun i => F i, rfl, ⟨some ⟨g, o, none⟩, cap, by rw [hll], entRow_length _, by rw [hll]; exact hl, fun _ => ⟨g, o, rfl, ?_, fun k u hu => ?_⟩⟩, fun x hx => ?_⟩, fun q hq => ?_, by rw [List.length_map, hll]; omega⟩
      · have := (hF 0 h0).1
        rw [Addr.add_lit] at this
        exact World.block_lt_of_cell? W _ this
      · have hk : k < len * 5 := by have := (List.getElem?_eq_some_iff.1 hu).1; rw [entRow_length, hll] at this; exact this
        have hk2 : k / 5 < ((List.range len).map fun i => F i).length := by rw [hll]; omega
        have hj := entRow_at _ (k / 5) hk2 (k % 5) (Nat.mod_lt _ (by decide))
        rw [show k / 5 * 5 + k % 5 = k by omega, hu] at hj
        obtain ⟨c0, c1, c2, c3, c4, _⟩ := hF (k / 5) (by rw [hll] at hk2; exact hk2)
        rw [Addr.add_lit] at c0 c1 c2 c3 c4
        simp only [List.getElem_map, List.getElem_range] at hj
        have hm : k % 5 = 0 ∨ k % 5 = 1 ∨ k % 5 = 2 ∨ k % 5 = 3 ∨ k % 5 = 4 := by omega
        rcases hm with hm | hm | hm | hm | hm
        · rw [hm] at hj; rw [show o + k = o + (k / 5 * 5 + 0) by omega, c0, hj]; rfl
        · rw [hm] at hj; rw [show o + k = o + (k / 5 * 5 + 1) by omega, c1, hj]; rfl
        · rw [hm] at hj; rw [show o + k = o + (k / 5 * 5 + 2) by omega, c2, hj]; rfl
        · rw [hm] at hj; rw [show o + k = o + (k / 5 * 5 + 3) by omega, c3, hj]; rfl
        · rw [hm] at hj; rw [show o + k = o + (k / 5 * 5 + 4) by omega, c4, hj]; rfl
      · simp only [List.mem_map, List.mem_range] at hx
        obtain ⟨i, hi', rfl⟩ := hx
        exact (hF i hi').2.2.2.2.2.1
      · simp only [List.mem_map, List.mem_range] at hq
        obtain ⟨_, ⟨i, hi', rfl⟩, rfl⟩ := hq
        exact (hF i hi').2.2.2.2.2.2
set_option maxRecDepth 100000 in
theorem open_ent {H : Type} {enc : TypeId × Value → H} {W : World} {base b0 : Nat} {spare : Nat → Bool} {held : Bool} {r : Reach} {v : Value} {d : DataW H} {ps : List MemPlace}
    (hv : Value.okWide Tryz.prog W r b0 42 v) (h : DataW.Trod enc Tryz.prog W base spare held 42 v d ps) :
    ∃ (e : Ent) (sl : Value), v = entV (e, sl) ∧ RdI W W.heap.size sl e.r.ids ∧ EntO e := by
  obtain ⟨f0, f1, hu, _⟩ := ent_one
  obtain ⟨k5, _⟩ := ent_cells
  obtain ⟨cs, rfl, hsz⟩ := okWide_struct hu hv
  obtain ⟨fuel, hf⟩ := h
  rw [k5] at hsz
  obtain ⟨x0, x1, x2, x3, x4, hc⟩ := five_of (l := cs.toList) (by simpa using hsz)
  have hcs : cs = #[x0, x1, x2, x3, x4] := by rw [← Array.toArray_toList (xs := cs), hc]
  subst hcs
  have hf' : DataW.trod enc Tryz.prog W base spare held fuel 42 [x0, x1, x2, x3, x4] = some (d, ps) := by simpa [Value.cells] using hf
  obtain ⟨e, he⟩ := ent_of hf'
  exact ⟨e, x4, by rw [he.c0, he.c1, he.c2, he.c3], he.i, he.o⟩
end Go.Proofs.YtbokckjlgjnnjaaGreatDoor

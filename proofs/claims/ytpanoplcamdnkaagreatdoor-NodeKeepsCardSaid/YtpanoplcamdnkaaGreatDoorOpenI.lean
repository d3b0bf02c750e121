/- Arguments that are a slice of numbers, or an ID, are opened. No conditions. -/
import Derived.Test.YtpanoplcamdnkaaGreatDoorOpenS
import Derived.Test.YtpanoplcamdnkaaGreatDoorRead
import Derived.Lib.SmallJoins
import Derived.Lib.LaidTab
import Derived.ChangeSlices
import Derived.Test.YtpanoplcamdnkaaGreatDoorChecked
namespace Go.Proofs.YtpanoplcamdnkaaGreatDoor
open Go.RowKit Go.ChangeShapes Go.WideShapes Go.Deep

theorem i64_bounds {z : Int} (h : (Lit.int .i64 z).wf = true) : -9223372036854775808 ≤ z ∧ z ≤ 9223372036854775807 := by
  simp [Lit.wf, IntKind.min, IntKind.max, IntKind.bits, IntKind.signed] at h
  omega
theorem u32_bounds {z : Int} (h : (Lit.int .u32 z).wf = true) : 0 ≤ z ∧ z < 4294967296 := by
  simp [Lit.wf, IntKind.min, IntKind.max, IntKind.bits, IntKind.signed] at h
  omega
theorem u8_bounds {z : Int} (h : (Lit.int .u8 z).wf = true) : 0 ≤ z ∧ z < 256 := by
  simp [Lit.wf, IntKind.min, IntKind.max, IntKind.bits, IntKind.signed] at h
  omega
set_option maxRecDepth 100000 in
theorem open_ils {H : Type} {enc : TypeId × Value → H} {W : World} {base b0 : Nat} {spare : Nat → Bool} {held : Bool} {r : Reach} {v : Value} {d : DataW H} {ps : List MemPlace}
    (hv : Value.okWide Tryz.prog W r b0 236 v) (h : DataW.Trod enc Tryz.prog W base spare held 236 v d ps) :
    ∃ l : List Int, Rd W W.heap.size v (l.map (Value.int .i64)) ∧ (∀ n ∈ l, -9223372036854775808 ≤ n ∧ n ≤ 9223372036854775807) ∧ l.length ≤ maxLen := by
  obtain ⟨A, len, cap, rfl⟩ := okWide_slice Tryz.underlying236 hv
  obtain ⟨fuel, hf⟩ := h
  have hf' : DataW.trod enc Tryz.prog W base spare held fuel 236 [.slice A len cap] = some (d, ps) := by simpa [Value.cells] using hf
  rcases open_ints Tryz.underlying236 Tryz.underlying3 (by kernel_rfl) hf' with ⟨h1, _⟩ | ⟨a, len', cap', zs, h1, _, hl, hm, hzl, _, hc, hw⟩
  · simp only [List.cons.injEq, Value.slice.injEq, and_true] at h1
    obtain ⟨rfl, rfl, rfl⟩ := h1
    exact ⟨[], Rd.nil _ _, fun n hn => absurd hn List.not_mem_nil, Nat.zero_le _⟩
  · simp only [List.cons.injEq, Value.slice.injEq, and_true] at h1
    obtain ⟨rfl, rfl, rfl⟩ := h1
    have hlz : len ≤ zs.length := by rw [hzl]; split <;> omega
    have htl : ((zs.take len).map (Value.int .i64)).length = len := by simp; omega
    refine ⟨zs.take len, ⟨_, cap, by rw [htl], by rw [htl]; exact hl, fun hn => ?_⟩, fun n hn => i64_bounds (hw n (List.mem_of_mem_take hn)), by simp; omega⟩
    have hpos : 0 < zs.length := by
      rcases Nat.eq_zero_or_pos zs.length with h0 | h0
      · have : zs = [] := List.length_eq_zero_iff.1 h0
        rw [this] at hn; simp at hn
      · exact h0
    have hc0 := hc 0 hpos
    have hsp : a.spot = none := by simpa [Addr.add] using World.cell?_spot hc0
    obtain ⟨g, o, sp⟩ := a
    simp only at hsp
    subst hsp
    have hg : g < W.heap.size := by
      have := World.block_lt_of_cell? W _ hc0
      exact this
    refine ⟨g, o, rfl, hg, fun k u hu => ?_⟩
    have hk : k < len := by have := (List.getElem?_eq_some_iff.1 hu).1; simp at this; omega
    have := hc k (by omega)
    rw [Addr.add_lit] at this
    rw [this]
    rw [List.getElem?_map, List.getElem?_take, if_pos hk, List.getElem?_eq_getElem (by omega)] at hu
    rw [← hu]
    simp [List.getD, show k < zs.length by omega]
theorem id_one : ∃ f0 f1, Tryz.prog.underlying 47 = some (.struct #[f0, f1]) ∧ oneCellFields Tryz.prog #[f0, f1] = true ∧ f0.type = 45 ∧ f1.type = 3 := ⟨_, _, Tryz.underlying47, by kernel_rfl, by kernel_rfl, by kernel_rfl⟩
theorem id_cells : Tryz.prog.cellsOf 47 = 2 := by kernel_rfl
set_option maxRecDepth 100000 in
theorem open_id {H : Type} {enc : TypeId × Value → H} {W : World} {base b0 : Nat} {spare : Nat → Bool} {held : Bool} {r : Reach} {v : Value} {d : DataW H} {ps : List MemPlace}
    (hv : Value.okWide Tryz.prog W r b0 47 v) (h : DataW.Trod enc Tryz.prog W base spare held 47 v d ps) :
    ∃ (p : Nat) (l : Int), v = .agg #[.int .u32 (p : Int), .int .i64 l] ∧ p < 4294967296 ∧ -9223372036854775808 ≤ l ∧ l ≤ 9223372036854775807 := by
  obtain ⟨f0, f1, hu, hone, t0, t1⟩ := id_one
  obtain ⟨v0, v1, y0, y1, n, rfl, _, _, h0, h1⟩ := Go.Joins.open_agg2 hu hone id_cells hv h
  rw [t0] at h0; rw [t1] at h1
  obtain ⟨z0, q0, _, w0⟩ := DataW.trod_int Tryz.underlying45 h0
  obtain ⟨z1, q1, _, w1⟩ := DataW.trod_int Tryz.underlying3 h1
  simp only [List.cons.injEq, and_true] at q0 q1
  subst q0; subst q1
  have b0 := u32_bounds w0
  have b1 := i64_bounds w1
  refine ⟨z0.toNat, z1, ?_, by omega, b1.1, b1.2⟩
  rw [show ((z0.toNat : Nat) : Int) = z0 by omega]
end Go.Proofs.YtpanoplcamdnkaaGreatDoor

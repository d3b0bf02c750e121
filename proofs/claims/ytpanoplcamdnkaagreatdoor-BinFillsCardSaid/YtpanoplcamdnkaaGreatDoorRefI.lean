/- Walk of the reference's ReadID. No conditions but bounds. -/
import Derived.Test.YtpanoplcamdnkaaGreatDoorRefC
import Derived.Test.YtpanoplcamdnkaaGreatDoorRefU
import Derived.Test.YtpanoplcamdnkaaGreatDoorBox2
namespace Go.Proofs.YtpanoplcamdnkaaGreatDoor
open Go.RowKit Go.Lib

/-- what the document says of a text that is read -/
def idRes (o : Option (Nat × Nat)) : Value := match o with
  | some (n, k) => .tuple #[.agg #[.int .u32 (n : Int), .int .i64 (k : Int)], .int .i64 0]
  | none => .tuple #[.agg #[.int .u32 0, .int .i64 0], .int .i64 1]
theorem readR_long {l : Bytes} (h : (cutAll 45 l).length ≠ 2) : readR l = none := by
  unfold readR
  split
  · next a b e => rw [e] at h; exact absurd rfl h
  · rfl
theorem readR_two {l a b : Bytes} (h : cutAll 45 l = [a, b]) : readR l = match unhexOf a, numR b 6 with
    | some n, some k => some (n, k)
    | _, _ => none := by
  unfold readR; rw [h]; simp only [unhexR_eq]
  cases unhexOf a <;> cases numR b 6 <;> rfl
set_option maxRecDepth 100000 in
set_option maxHeartbeats 1000000 in
theorem RReadID_any (t : ByteArray) (ht : t.size ≤ 2 ^ 30) (w : World) :
    Calls Tryz.prog 89 #[.string t] w fun e w' => e = .returned (idRes (readId t.data.toList)) ∧ Below w.heap.size w w' := by
  rw [← readR_eq]
  have hb0 : Below w.heap.size w (w.alloc (.cells #[.int .u32 0, .int .i64 0] 47)) := (Below.refl _ w).alloc (Nat.le_refl _) _
  have hbx : Box2 w.heap.size (.int .u32 0) (.int .i64 0) (w.alloc (.cells #[.int .u32 0, .int .i64 0] 47)) := Box2.mk' w _ _ _
  by_cases hl : (cutAll 45 t.data.toList).length = 2
  · obtain ⟨a, b, hab⟩ : ∃ a b, cutAll 45 t.data.toList = [a, b] := by
      match h : cutAll 45 t.data.toList, hl with
      | [a, b], _ => exact ⟨a, b, rfl⟩
    have hr := readR_two hab
    have HAB := Lib.hid hab
    have HU : Hid (unhexOf (bs a).data.toList = unhexOf a) := Lib.hid (by rw [bs_toList])
    have HNZ : Hid (numZ (bs b).data.toList 6 = numZ b 6) := Lib.hid (by rw [bs_toList])
    have hlen : a.length + b.length + 1 = t.size := by
      have h1 := hab
      unfold cutAll at h1
      rw [size_toList]
      cases hc : byteCut 45 t.data.toList with
      | none => rw [cutAux_none 45 _ [] ((byteCut_none 45 _).1 hc)] at h1; cases h1
      | some p =>
        obtain ⟨x, y⟩ := p
        obtain ⟨e1, e2⟩ := byteCut_some 45 _ x y hc
        rw [e1, cutAux_some 45 x y [] e2] at h1
        injection h1 with h1 h2
        have hy : (45 : UInt8) ∉ y := fun hy => by
          cases hd : byteCut 45 y with
          | none => exact (byteCut_none 45 y).1 hd hy
          | some q =>
            obtain ⟨f1, f2⟩ := byteCut_some 45 y q.1 q.2 hd
            rw [f1, cutAux_some 45 q.1 q.2 [] f2] at h2
            injection h2 with _ h2
            exact cutAux_ne 45 q.2 [] h2
        rw [cutAux_none 45 y [] hy] at h2
        injection h2 with h2 _
        rw [e1, ← h1, ← h2]; simp; omega
    have HSA : Hid ((bs a).size ≤ 2 ^ 40) := Lib.hid (by rw [bs_size]; omega)
    have HR := Lib.hid hr
    have HBX := Lib.hid hbx
    clear hl hab hr hbx hlen
    go_enter Tryz.func89, Tryz.ntmps89
    go_wp2_with fail
    generalize w.alloc (.cells #[.int .u32 0, .int .i64 0] 47) = w0 at *
    refine (RCut_any t 45 (by omega) w0).mono ?_
    rintro e w1 ⟨v1, rfl, ho1, hb1⟩
    rw [HAB.out] at ho1
    obtain ⟨A1, c1, rfl, hn1, _⟩ := own_form ho1
    obtain ⟨A2, c2, hv2, _, hx⟩ := Rd.own ho1
    injection hv2 with hv2 _ _
    subst hv2
    obtain ⟨g, o, rfl, hg, hc⟩ := hx (by simp)
    have r0 : w1.cell? ⟨g, o, none⟩ = some (.string (bs a)) := hc 0 _ rfl
    have r1 : w1.cell? ⟨g, o + 1, none⟩ = some (.string (bs b)) := hc 1 _ rfl
    have hB1 := hb0.trans (hb1.mono hb0.size)
    have hbx1 := HBX.out.below hb1 HBX.out.lt
    clear hb0 ho1 hx hc hb1
    go_wp2_with fail
    refine (RUnhex_any (bs a) HSA.out w1).mono ?_
    rintro e w2 ⟨rfl, rfl⟩
    rw [HU.out]
    cases hu : unhexOf a with
    | none =>
      have HJ : Hid (readR t.data.toList = none) := Lib.hid (by rw [HR.out, hu])
      obtain ⟨t0, t1, t2⟩ := hbx1.rd (.int .u32 0) (.int .i64 0)
      have hb7 := below_set2 hB1 (b := w.heap.size) (Nat.le_refl _) (.int .u32 0) (.int .i64 0)
      obtain ⟨d0, d1, f0, f1⟩ := hbx1
      rw [show hexRes none = .tuple #[.int .u32 0, .bool false] from rfl]
      clear hB1 hu
      go_wp2_with fail
      refine (RNumberOf_any (bs b) 6 (by decide) w1).mono ?_
      rintro e w3 ⟨rfl, rfl⟩
      rw [HNZ.out]
      go_wp2
      refine bodyPost_ret (v := .tuple #[.agg #[.int .u32 0, .int .i64 0], .int .i64 1]) (by simp [results, Tryz.results89, go_sem, t0, t1, t2]) rfl ?_
      exact ⟨by rw [HJ.out]; rfl, hb7⟩
    | some n =>
      rw [show hexRes (some n) = .tuple #[.int .u32 (n : Int), .bool true] from rfl]
      go_wp2_with fail
      refine (RNumberOf_any (bs b) 6 (by decide) w1).mono ?_
      rintro e w3 ⟨rfl, rfl⟩
      rw [HNZ.out]
      cases hk : numR b 6 with
      | none =>
        have HJ : Hid (readR t.data.toList = none) := Lib.hid (by rw [HR.out, hu, hk])
        rw [show numZ b 6 = -1 by unfold numZ; rw [hk]]
        obtain ⟨t0, t1, t2⟩ := hbx1.rd (.int .u32 0) (.int .i64 0)
        have hb7 := below_set2 hB1 (b := w.heap.size) (Nat.le_refl _) (.int .u32 0) (.int .i64 0)
        obtain ⟨d0, d1, f0, f1⟩ := hbx1
        clear hB1 hu hk
        go_wp2
        refine bodyPost_ret (v := .tuple #[.agg #[.int .u32 0, .int .i64 0], .int .i64 1]) (by simp [results, Tryz.results89, go_sem, t0, t1, t2]) rfl ?_
        exact ⟨by rw [HJ.out]; rfl, hb7⟩
      | some k =>
        have HJ : Hid (readR t.data.toList = some (n, k)) := Lib.hid (by rw [HR.out, hu, hk])
        rw [show numZ b 6 = (k : Int) by unfold numZ; rw [hk]]
        have hk0 : ¬ (k : Int) < 0 := by omega
        obtain ⟨t0, t1, t2⟩ := hbx1.rd (.int .u32 (n : Int)) (.int .i64 (k : Int))
        have hb7 := below_set2 hB1 (b := w.heap.size) (Nat.le_refl _) (.int .u32 (n : Int)) (.int .i64 (k : Int))
        obtain ⟨d0, d1, f0, f1⟩ := hbx1
        clear hB1 hu hk
        go_wp2
        refine bodyPost_ret (v := .tuple #[.agg #[.int .u32 (n : Int), .int .i64 (k : Int)], .int .i64 0]) (by simp [results, Tryz.results89, go_sem, t0, t1, t2]) rfl ?_
        exact ⟨by rw [HJ.out]; rfl, hb7⟩
  · have HJ := Lib.hid (readR_long hl)
    have hli : (((cutAll 45 t.data.toList).length : Int) == 2) = false := by rw [beq_eq_false_iff_ne]; omega
    have HBX := Lib.hid hbx
    clear hl hbx
    go_enter Tryz.func89, Tryz.ntmps89
    go_wp2_with fail
    generalize w.alloc (.cells #[.int .u32 0, .int .i64 0] 47) = w0 at *
    refine (RCut_any t 45 (by omega) w0).mono ?_
    rintro e w1 ⟨v1, rfl, ho1, hb1⟩
    obtain ⟨A1, c1, rfl, hn1, _⟩ := own_form ho1
    have hB1 := hb0.trans (hb1.mono hb0.size)
    have hbx1 := HBX.out.below hb1 HBX.out.lt
    obtain ⟨t0, t1, t2⟩ := hbx1.rd (.int .u32 0) (.int .i64 0)
    have hb7 := below_set2 hB1 (b := w.heap.size) (Nat.le_refl _) (.int .u32 0) (.int .i64 0)
    obtain ⟨d0, d1, f0, f1⟩ := hbx1
    clear hb0 ho1 hb1 hB1
    go_wp2
    refine bodyPost_ret (v := .tuple #[.agg #[.int .u32 0, .int .i64 0], .int .i64 1]) (by simp [results, Tryz.results89, go_sem, t0, t1, t2]) rfl ?_
    exact ⟨by rw [HJ.out]; rfl, hb7⟩
end Go.Proofs.YtpanoplcamdnkaaGreatDoor

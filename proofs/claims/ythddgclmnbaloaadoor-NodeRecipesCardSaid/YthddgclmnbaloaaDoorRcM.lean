/- Walks of slices.MinFunc over IDs, recipe.Rep. No conditions but bounds. -/
import Derived.Test.YthddgclmnbaloaaDoorIds
import Derived.Test.YthddgclmnbaloaaDoorPrt2
namespace Go.Proofs.YthddgclmnbaloaaDoor
open Go.RowKit Go.Lib

theorem rep_next_yes {L : IdL} {m : Idn} {k : Nat} (hk : k < L.length) (h : lesser L[k] m = true) : repFrom m (L.drop k) = repFrom L[k] (L.drop (k + 1)) := by
  rw [List.drop_eq_getElem_cons hk]
  show repFrom (if lesser L[k] m then L[k] else m) _ = _
  rw [if_pos h]
theorem rep_next_no {L : IdL} {m : Idn} {k : Nat} (hk : k < L.length) (h : lesser L[k] m = false) : repFrom m (L.drop k) = repFrom m (L.drop (k + 1)) := by
  rw [List.drop_eq_getElem_cons hk]
  show repFrom (if lesser L[k] m then L[k] else m) _ = _
  rw [if_neg (by rw [h]; simp)]
theorem cmp_yes {x m : Idn} (h : lesser x m = true) : cmpId x.1 m.1 x.2 m.2 < 0 := of_decide_eq_true ((cmpId_less _ _ _ _).trans h)
theorem cmp_no {x m : Idn} (h : lesser x m = false) : ¬ cmpId x.1 m.1 x.2 m.2 < 0 := of_decide_eq_false ((cmpId_less _ _ _ _).trans h)
set_option maxRecDepth 100000 in
set_option maxHeartbeats 2000000 in
theorem MinIDs_any (v : Value) (L : IdL) (hL : L.length ≤ 1000000) (h0 : 0 < L.length) (w : World) (hv : RdI w w.heap.size v L) :
    Calls Tryd.prog 39 #[v, .func (.func 40) #[] #[]] w fun e w' => e = .returned (idV (repOf L)) ∧ Below w.heap.size w w' := by
  obtain ⟨A, c, rfl, hcap, hcells⟩ := hv.form
  obtain ⟨g, o, rfl, hg, hx⟩ := hcells h0
  obtain ⟨x0, x1⟩ := hx 0 h0
  have HREP : Hid (repOf L = repFrom L[0] (L.drop 1)) := Lib.hid (by
    conv => lhs; rw [← List.drop_zero (l := L), List.drop_eq_getElem_cons h0]
    rfl)
  have hA1 := (Below.refl w.heap.size w).alloc (Nat.le_refl _) (.cells #[.int .u32 0, .int .i64 0] 44)
  have z0 := (hA1.cell (p := ⟨g, o + 0 * 2, none⟩) hg).trans x0
  have z1 := (hA1.cell (p := ⟨g, o + 0 * 2 + 1, none⟩) hg).trans x1
  simp only [Nat.zero_mul, Nat.add_zero] at z0 z1
  have HX := Lib.hid hx
  have h0i : ¬ (L.length : Int) < 1 := by omega
  have h0j : 0 < (L.length : Int) := by omega
  clear hx x0 x1 hcells hA1
  go_enter Tryd.func39, Tryd.ntmps39
  go_wp2
  have hb0 : Below w.heap.size w ((w.alloc (.cells #[.int .u32 0, .int .i64 0] 44)).alloc (.cells #[.int .u32 (L[0].1 : Int), .int .i64 L[0].2] 44)) := ((Below.refl _ w).alloc (Nat.le_refl _) _).alloc (by simp) _
  have hr0 : Box2 w.heap.size (.int .u32 0) (.int .i64 0) ((w.alloc (.cells #[.int .u32 0, .int .i64 0] 44)).alloc (.cells #[.int .u32 (L[0].1 : Int), .int .i64 L[0].2] 44)) := (Box2.mk' w _ _ _).alloc _
  have hm0 : Box2 (w.heap.size + 1) (.int .u32 (L[0].1 : Int)) (.int .i64 L[0].2) ((w.alloc (.cells #[.int .u32 0, .int .i64 0] 44)).alloc (.cells #[.int .u32 (L[0].1 : Int), .int .i64 L[0].2] 44)) := by
    have := Box2.mk' (w.alloc (.cells #[.int .u32 0, .int .i64 0] 44)) (.int .u32 (L[0].1 : Int)) (.int .i64 L[0].2) 44
    simpa using this
  generalize (w.alloc (.cells #[.int .u32 0, .int .i64 0] 44)).alloc (.cells #[.int .u32 (L[0].1 : Int), .int .i64 L[0].2] 44) = w0 at *
  have HB0 := Lib.hid hb0
  have HR0 := Lib.hid hr0
  have hlt0 := hm0.lt
  clear hb0 hr0 z0 z1
  go_loopg [6] (L.length - 1) (fun gh vi wr => ∃ (k : Nat) (m : Idn), vi = .int .i64 k ∧ 1 ≤ k ∧ k ≤ L.length ∧ gh = L.length - k ∧ Hid (repOf L = repFrom m (L.drop k)) ∧ w0.grownBy wr (some (w.heap.size + 1)) ∧ Box2 (w.heap.size + 1) (.int .u32 (m.1 : Int)) (.int .i64 m.2) wr)
  case atStart => exact ⟨1, L[0], rfl, by omega, h0, rfl, HREP, ⟨rfl, rfl, rfl, Nat.le_refl _, fun _ _ _ => rfl⟩, hm0⟩
  case round =>
    obtain ⟨k, m, rfl, hk1, hk, hgm, hI, hg9, hbm⟩ := hrel
    by_cases hkl : k < L.length
    · obtain ⟨x0, x1⟩ := HX.out k hkl
      have hgne : some g ≠ some (w.heap.size + 1) := fun e => by have := Option.some.inj e; omega
      have hg0 : g < w0.heap.size := by omega
      have hgr : g < wr.heap.size := by have := hg9.size; omega
      have y0 := (hg9.cell_far ⟨g, o + k * 2, none⟩ hg0 hgne).trans ((HB0.out.cell (p := ⟨g, o + k * 2, none⟩) hg).trans x0)
      have y1 := (hg9.cell_far ⟨g, o + k * 2 + 1, none⟩ hg0 hgne).trans ((HB0.out.cell (p := ⟨g, o + k * 2 + 1, none⟩) hg).trans x1)
      have b1 : (0 : Int) ≤ (k : Int) := by omega
      have b2 : (k : Int) < (L.length : Int) := by omega
      have Y0 := Lib.hid y0
      have Y1 := Lib.hid y1
      have HBM := Lib.hid hbm
      have HG := Lib.hid hg9
      clear x0 x1 y0 y1 hbm hg9
      go_wp2
      have hS0 : Below wr.heap.size wr wr.drew := (Below.refl _ _).drew
      refine region_S (fun w' => Below wr.heap.size wr w') 7 (by kernel_rfl) (by kernel_rfl) ?_
      refine take_S 0 rfl (by kernel_rfl) (by kernel_rfl) hS0 (fun w' hS => by go_simp; rfl) ?_
      refine take_S 1 rfl (by kernel_rfl) (by kernel_rfl) hS0 (fun w' hS => by go_simp; rfl) ?_
      refine take_S 2 rfl (by kernel_rfl) (by kernel_rfl) hS0 (fun w' hS => by go_simp; rfl) ?_
      refine take_S 3 rfl (by kernel_rfl) (by kernel_rfl) hS0 (fun w' hS => by go_simp; rfl) ?_
      refine take_S 4 rfl (by kernel_rfl) (by kernel_rfl) hS0 (fun w' hS => by have B0 := (hS.cell (p := ⟨g, o + k * 2, none⟩) hgr).trans Y0.out; have B1 := (hS.cell (p := ⟨g, o + k * 2 + 1, none⟩) hgr).trans Y1.out; go_simp; rfl) ?_
      refine take_S 5 rfl (by kernel_rfl) (by kernel_rfl) hS0 (fun w' hS => by have B0 := (HBM.out.below hS HBM.out.lt).c0; have B1 := (HBM.out.below hS HBM.out.lt).c1; go_simp; rfl) ?_
      refine carry_S 6 rfl (by kernel_rfl) (by decide) (by kernel_rfl) (fun K hK => ?_)
      go_simp
      refine (PCompare_any L[k].1 m.1 L[k].2 m.2 _).mono ?_
      rintro e w4 ⟨rfl, hb4⟩
      have hS4 : Below wr.heap.size wr w4 := hS0.trans hb4
      refine hK _ _ hS4 (forced_S (by kernel_rfl) ?_)
      clear hK K
      try simp only [Act.put, List.getElem_toArray, List.getElem_cons_succ, List.getElem_cons_zero, List.setIfInBounds_toArray, List.set_cons_zero, List.set_cons_succ]
      simp only [List.drop_succ_cons, List.drop_zero]
      have HB4 := Lib.hid (gb_below HG.out hS4)
      have hbm4 := HBM.out.below hS4 HBM.out.lt
      have HBM4 := Lib.hid hbm4
      have y0 := (hS4.cell (p := ⟨g, o + k * 2, none⟩) hgr).trans Y0.out
      have y1 := (hS4.cell (p := ⟨g, o + k * 2 + 1, none⟩) hgr).trans Y1.out
      obtain ⟨m0, m1, f0, f1⟩ := hbm4
      cases hc : lesser L[k] m with
      | true =>
        have hci := cmp_yes hc
        have HN := Lib.hid (hI.out.trans (rep_next_yes hkl hc))
        clear hc hI
        go_wp2
        go_roundg (L.length - (k + 1))
        case measure => omega
        case rel => exact ⟨k + 1, L[k], by go_num, by omega, hkl, rfl, HN, gb_set (gb_set HB4.out _ _) _ _, HBM4.out.set _ _⟩
      | false =>
        have hci := cmp_no hc
        have HN := Lib.hid (hI.out.trans (rep_next_no hkl hc))
        clear hc hI
        go_wp2
        go_roundg (L.length - (k + 1))
        case measure => omega
        case rel => exact ⟨k + 1, m, by go_num, by omega, hkl, rfl, HN, HB4.out, HBM4.out⟩
    · obtain rfl : k = L.length := by omega
      have hI2 : repOf L = m := by rw [hI.out, List.drop_eq_nil_of_le (Nat.le_refl _)]; rfl
      have HI := Lib.hid hI2
      have hrr := gb_box2 hg9 (by omega) HR0.out
      have HRR := Lib.hid hrr
      obtain ⟨r0, r1, f0, f1⟩ := hrr
      obtain ⟨m0, m1, _, _⟩ := hbm
      obtain ⟨t0, t1, t2⟩ := HRR.out.rd (.int .u32 (m.1 : Int)) (.int .i64 m.2)
      have HB9 := Lib.hid (below_set2 (gb_toBelow HB0.out (by omega) (by omega) hg9) (Nat.le_refl _) (.int .u32 (m.1 : Int)) (.int .i64 m.2))
      clear hI hI2 hg9
      go_wp2
      refine bodyPost_ret (v := idV m) (by simp [results, Tryd.results39, go_sem, t0, t1]) rfl ?_
      exact ⟨by rw [HI.out], HB9.out⟩
set_option maxRecDepth 100000 in
set_option maxHeartbeats 2000000 in
theorem RcRep_any (v : Value) (r : Rcp) (hc : r.ids.length ≤ 1000000) (w : World) (hv : RcpV w w.heap.size v r) :
    Calls Tryd.prog 13 #[v] w fun e w' => e = .returned (idV (repOf r.ids)) ∧ Below w.heap.size w w' := by
  obtain ⟨sl, rfl, hrd⟩ := hv
  have hb0 : Below w.heap.size w ((w.alloc (.cells #[VT r.name, .int .i64 r.len, .int .u32 (r.print : Int), sl] 36)).alloc (.cells #[.int .u32 0, .int .i64 0] 44)) := ((Below.refl _ w).alloc (Nat.le_refl _) _).alloc (by simp) _
  have hbx : Box4 w.heap.size (VT r.name) (.int .i64 r.len) (.int .u32 (r.print : Int)) sl ((w.alloc (.cells #[VT r.name, .int .i64 r.len, .int .u32 (r.print : Int), sl] 36)).alloc (.cells #[.int .u32 0, .int .i64 0] 44)) := (Box4.mk' w _ _ _ _ _).below ((Below.refl (w.alloc _).heap.size (w.alloc _)).alloc (Nat.le_refl _) _) (by simp)
  have hbr : Box2 (w.heap.size + 1) (.int .u32 0) (.int .i64 0) ((w.alloc (.cells #[VT r.name, .int .i64 r.len, .int .u32 (r.print : Int), sl] 36)).alloc (.cells #[.int .u32 0, .int .i64 0] 44)) := by
    have := Box2.mk' (w.alloc (.cells #[VT r.name, .int .i64 r.len, .int .u32 (r.print : Int), sl] 36)) (.int .u32 0) (.int .i64 0) 44
    simpa using this
  have hrd0 := (hrd.keep hb0 (Nat.le_refl _)).more hb0.size
  obtain ⟨A, c, rfl, hcap, _⟩ := hrd.form
  obtain ⟨c0, c1, c2, c3, _⟩ := hbx
  have HB0 := Lib.hid hb0
  have HBR := Lib.hid hbr
  have HRD := Lib.hid hrd0
  have ID0 : ∀ w, Calls Tryd.prog 37 #[.string ⟨#[]⟩] w fun e w' => e = .returned (idV (idOf [])) ∧ Below w.heap.size w w' := fun w => ID_any ⟨#[]⟩ w (by decide)
  have HID := Lib.hid ID0
  clear hb0 hbr hrd hrd0 ID0
  by_cases hz : r.ids = []
  · have HR : Hid (repOf r.ids = idOf []) := Lib.hid (by rw [hz]; rfl)
    have hl : r.ids.length = 0 := by rw [hz]; rfl
    have hli : ((r.ids.length : Int) == 0) = true := by rw [hl]; rfl
    clear hz hl
    go_enter Tryd.func13, Tryd.ntmps13
    go_wp2_with fail
    refine (HID.out _).mono ?_
    rintro e w1 ⟨rfl, hb1⟩
    have hbr1 := HBR.out.below hb1 HBR.out.lt
    have HBR1 := Lib.hid hbr1
    obtain ⟨r0, r1, f0, f1⟩ := hbr1
    obtain ⟨t0, t1, t2⟩ := HBR1.out.rd (.int .u32 ((idOf []).1 : Int)) (.int .i64 (idOf []).2)
    have HB9 := Lib.hid (below_set2 (HB0.out.trans (hb1.mono HB0.out.size)) (Nat.le_succ _) (.int .u32 ((idOf []).1 : Int)) (.int .i64 (idOf []).2))
    clear hb1
    go_wp2
    refine bodyPost_ret (v := idV (idOf [])) (by simp [results, Tryd.results13, go_sem, t0, t1]) rfl ?_
    exact ⟨by rw [HR.out], HB9.out⟩
  · have hl : 0 < r.ids.length := List.length_pos_iff.2 hz
    have hli : ((r.ids.length : Int) == 0) = false := by rw [beq_eq_false_iff_ne]; omega
    have HM := Lib.hid (MinIDs_any _ r.ids hc hl _ HRD.out)
    clear hz
    go_enter Tryd.func13, Tryd.ntmps13
    go_wp2_with fail
    refine HM.out.mono ?_
    rintro e w1 ⟨rfl, hb1⟩
    have hbr1 := HBR.out.below hb1 HBR.out.lt
    have HBR1 := Lib.hid hbr1
    obtain ⟨r0, r1, f0, f1⟩ := hbr1
    obtain ⟨t0, t1, t2⟩ := HBR1.out.rd (.int .u32 ((repOf r.ids).1 : Int)) (.int .i64 (repOf r.ids).2)
    have HB9 := Lib.hid (below_set2 (HB0.out.trans (hb1.mono HB0.out.size)) (Nat.le_succ _) (.int .u32 ((repOf r.ids).1 : Int)) (.int .i64 (repOf r.ids).2))
    clear hb1
    go_wp2
    refine bodyPost_ret (v := idV (repOf r.ids)) (by simp [results, Tryd.results13, go_sem, t0, t1]) rfl ?_
    exact ⟨rfl, HB9.out⟩
end Go.Proofs.YthddgclmnbaloaaDoor

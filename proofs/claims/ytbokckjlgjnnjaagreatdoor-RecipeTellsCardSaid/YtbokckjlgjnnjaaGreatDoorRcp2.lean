/- RcM, RcS, RcK, HeldN in one text. Conditions: as each part says. -/
import Derived.Test.YtbokckjlgjnnjaaGreatDoorIds
import Derived.Test.YtbokckjlgjnnjaaGreatDoorPrT
import Derived.Test.YtbokckjlgjnnjaaGreatDoorRcp1
import Derived.Test.YtbokckjlgjnnjaaGreatDoorRcR
import Derived.Test.YtbokckjlgjnnjaaGreatDoorErrV
import Derived.Test.YtbokckjlgjnnjaaGreatDoorHeld
/- Walks of slices.MinFunc over IDs, recipe.Rep. No conditions but bounds. -/
namespace Go.Proofs.YtbokckjlgjnnjaaGreatDoor
open Go.RowKit Go.Lib

theorem rep_next_yes {L : IdL} {m : Idn} {k : Nat} (hk : k < L.length) (h : lesser L[k] m = true) : repFrom m (L.drop k) = repFrom L[k] (L.drop (k + 1)) := by
  rw [List.drop_eq_getElem_cons hk]
  show repFrom (if lesser L[k] m then L[k] else m) _ = _
  rw [if_pos h]
theorem rep_next_no {L : IdL} {m : Idn} {k : Nat} (hk : k < L.length) (h : lesser L[k] m = false) : repFrom m (L.drop k) = repFrom m (L.drop (k + 1)) := by
  rw [List.drop_eq_getElem_cons hk]
  show repFrom (if lesser L[k] m then L[k] else m) _ = _
  rw [if_neg (by rw [h]; simp)]
theorem cmp_yes {x m : Idn} (h : lesser x m = true) : cmpId x.1 m.1 x.2 m.2 < 0 := of_decide_eq_true ((cmpId_less _ _ _ _).trans h)
theorem cmp_no {x m : Idn} (h : lesser x m = false) : ¬ cmpId x.1 m.1 x.2 m.2 < 0 := of_decide_eq_false ((cmpId_less _ _ _ _).trans h)
set_option maxRecDepth 100000 in
set_option maxHeartbeats 2000000 in
theorem MinIDs_any (v : Value) (L : IdL) (hL : L.length ≤ 1000000) (h0 : 0 < L.length) (w : World) (hv : RdI w w.heap.size v L) :
    Calls Tryz.prog 70 #[v, .func (.func 71) #[] #[]] w fun e w' => e = .returned (idV (repOf L)) ∧ Below w.heap.size w w' := by
  obtain ⟨A, c, rfl, hcap, hcells⟩ := hv.form
  obtain ⟨g, o, rfl, hg, hx⟩ := hcells h0
  obtain ⟨x0, x1⟩ := hx 0 h0
  have HREP : Hid (repOf L = repFrom L[0] (L.drop 1)) := Lib.hid (by
    conv => lhs; rw [← List.drop_zero (l := L), List.drop_eq_getElem_cons h0]
    rfl)
  have hA1 := (Below.refl w.heap.size w).alloc (Nat.le_refl _) (.cells #[.int .u32 0, .int .i64 0] 71)
  have z0 := (hA1.cell (p := ⟨g, o + 0 * 2, none⟩) hg).trans x0
  have z1 := (hA1.cell (p := ⟨g, o + 0 * 2 + 1, none⟩) hg).trans x1
  simp only [Nat.zero_mul, Nat.add_zero] at z0 z1
  have HX := Lib.hid hx
  have h0i : ¬ (L.length : Int) < 1 := by omega
  have h0j : 0 < (L.length : Int) := by omega
  clear hx x0 x1 hcells hA1
  go_enter Tryz.func70, Tryz.ntmps70
  go_wp2
  have hb0 : Below w.heap.size w ((w.alloc (.cells #[.int .u32 0, .int .i64 0] 71)).alloc (.cells #[.int .u32 (L[0].1 : Int), .int .i64 L[0].2] 71)) := ((Below.refl _ w).alloc (Nat.le_refl _) _).alloc (by simp) _
  have hr0 : Box2 w.heap.size (.int .u32 0) (.int .i64 0) ((w.alloc (.cells #[.int .u32 0, .int .i64 0] 71)).alloc (.cells #[.int .u32 (L[0].1 : Int), .int .i64 L[0].2] 71)) := (Box2.mk' w _ _ _).alloc _
  have hm0 : Box2 (w.heap.size + 1) (.int .u32 (L[0].1 : Int)) (.int .i64 L[0].2) ((w.alloc (.cells #[.int .u32 0, .int .i64 0] 71)).alloc (.cells #[.int .u32 (L[0].1 : Int), .int .i64 L[0].2] 71)) := by
    have := Box2.mk' (w.alloc (.cells #[.int .u32 0, .int .i64 0] 71)) (.int .u32 (L[0].1 : Int)) (.int .i64 L[0].2) 71
    simpa using this
  generalize (w.alloc (.cells #[.int .u32 0, .int .i64 0] 71)).alloc (.cells #[.int .u32 (L[0].1 : Int), .int .i64 L[0].2] 71) = w0 at *
  have HB0 := Lib.hid hb0
  have HR0 := Lib.hid hr0
  have hlt0 := hm0.lt
  clear hb0 hr0 z0 z1
  go_loopg [6] (L.length - 1) (fun gh vi wr => ∃ (k : Nat) (m : Idn), vi = .int .i64 k ∧ 1 ≤ k ∧ k ≤ L.length ∧ gh = L.length - k ∧ Hid (repOf L = repFrom m (L.drop k)) ∧ w0.grownBy wr (some (w.heap.size + 1)) ∧ Box2 (w.heap.size + 1) (.int .u32 (m.1 : Int)) (.int .i64 m.2) wr)
  case atStart => exact ⟨1, L[0], rfl, by omega, h0, rfl, HREP, ⟨rfl, rfl, rfl, Nat.le_refl _, fun _ _ _ => rfl⟩, hm0⟩
  case round =>
    obtain ⟨k, m, rfl, hk1, hk, hgm, hI, hg9, hbm⟩ := hrel
    by_cases hkl : k < L.length
    · obtain ⟨x0, x1⟩ := HX.out k hkl
      have hgne : some g ≠ some (w.heap.size + 1) := fun e => by have := Option.some.inj e; omega
      have hg0 : g < w0.heap.size := by omega
      have hgr : g < wr.heap.size := by have := hg9.size; omega
      have y0 := (hg9.cell_far ⟨g, o + k * 2, none⟩ hg0 hgne).trans ((HB0.out.cell (p := ⟨g, o + k * 2, none⟩) hg).trans x0)
      have y1 := (hg9.cell_far ⟨g, o + k * 2 + 1, none⟩ hg0 hgne).trans ((HB0.out.cell (p := ⟨g, o + k * 2 + 1, none⟩) hg).trans x1)
      have b1 : (0 : Int) ≤ (k : Int) := by omega
      have b2 : (k : Int) < (L.length : Int) := by omega
      have Y0 := Lib.hid y0
      have Y1 := Lib.hid y1
      have HBM := Lib.hid hbm
      have HG := Lib.hid hg9
      clear x0 x1 y0 y1 hbm hg9
      go_wp2
      have hS0 : Below wr.heap.size wr wr.drew := (Below.refl _ _).drew
      refine region_S (fun w' => Below wr.heap.size wr w') 7 (by kernel_rfl) (by kernel_rfl) ?_
      refine take_S 0 rfl (by kernel_rfl) (by kernel_rfl) hS0 (fun w' hS => by go_simp; rfl) ?_
      refine take_S 1 rfl (by kernel_rfl) (by kernel_rfl) hS0 (fun w' hS => by go_simp; rfl) ?_
      refine take_S 2 rfl (by kernel_rfl) (by kernel_rfl) hS0 (fun w' hS => by go_simp; rfl) ?_
      refine take_S 3 rfl (by kernel_rfl) (by kernel_rfl) hS0 (fun w' hS => by go_simp; rfl) ?_
      refine take_S 4 rfl (by kernel_rfl) (by kernel_rfl) hS0 (fun w' hS => by have B0 := (hS.cell (p := ⟨g, o + k * 2, none⟩) hgr).trans Y0.out; have B1 := (hS.cell (p := ⟨g, o + k * 2 + 1, none⟩) hgr).trans Y1.out; go_simp; rfl) ?_
      refine take_S 5 rfl (by kernel_rfl) (by kernel_rfl) hS0 (fun w' hS => by have B0 := (HBM.out.below hS HBM.out.lt).c0; have B1 := (HBM.out.below hS HBM.out.lt).c1; go_simp; rfl) ?_
      refine carry_S 6 rfl (by kernel_rfl) (by decide) (by kernel_rfl) (fun K hK => ?_)
      go_simp
      refine (PCompare_any L[k].1 m.1 L[k].2 m.2 _).mono ?_
      rintro e w4 ⟨rfl, hb4⟩
      have hS4 : Below wr.heap.size wr w4 := hS0.trans hb4
      refine hK _ _ hS4 (forced_S (by kernel_rfl) ?_)
      clear hK K
      try simp only [Act.put, List.getElem_toArray, List.getElem_cons_succ, List.getElem_cons_zero, List.setIfInBounds_toArray, List.set_cons_zero, List.set_cons_succ]
      simp only [List.drop_succ_cons, List.drop_zero]
      have HB4 := Lib.hid (gb_below HG.out hS4)
      have hbm4 := HBM.out.below hS4 HBM.out.lt
      have HBM4 := Lib.hid hbm4
      have y0 := (hS4.cell (p := ⟨g, o + k * 2, none⟩) hgr).trans Y0.out
      have y1 := (hS4.cell (p := ⟨g, o + k * 2 + 1, none⟩) hgr).trans Y1.out
      obtain ⟨m0, m1, f0, f1⟩ := hbm4
      cases hc : lesser L[k] m with
      | true =>
        have hci := cmp_yes hc
        have HN := Lib.hid (hI.out.trans (rep_next_yes hkl hc))
        clear hc hI
        go_wp2
        go_roundg (L.length - (k + 1))
        case measure => omega
        case rel => exact ⟨k + 1, L[k], by go_num, by omega, hkl, rfl, HN, gb_set (gb_set HB4.out _ _) _ _, HBM4.out.set _ _⟩
      | false =>
        have hci := cmp_no hc
        have HN := Lib.hid (hI.out.trans (rep_next_no hkl hc))
        clear hc hI
        go_wp2
        go_roundg (L.length - (k + 1))
        case measure => omega
        case rel => exact ⟨k + 1, m, by go_num, by omega, hkl, rfl, HN, HB4.out, HBM4.out⟩
    · obtain rfl : k = L.length := by omega
      have hI2 : repOf L = m := by rw [hI.out, List.drop_eq_nil_of_le (Nat.le_refl _)]; rfl
      have HI := Lib.hid hI2
      have hrr := gb_box2 hg9 (by omega) HR0.out
      have HRR := Lib.hid hrr
      obtain ⟨r0, r1, f0, f1⟩ := hrr
      obtain ⟨m0, m1, _, _⟩ := hbm
      obtain ⟨t0, t1, t2⟩ := HRR.out.rd (.int .u32 (m.1 : Int)) (.int .i64 m.2)
      have HB9 := Lib.hid (below_set2 (gb_toBelow HB0.out (by omega) (by omega) hg9) (Nat.le_refl _) (.int .u32 (m.1 : Int)) (.int .i64 m.2))
      clear hI hI2 hg9
      go_wp2
      refine bodyPost_ret (v := idV m) (by simp [results, Tryz.results70, go_sem, t0, t1]) rfl ?_
      exact ⟨by rw [HI.out], HB9.out⟩
set_option maxRecDepth 100000 in
set_option maxHeartbeats 2000000 in
theorem RcRep_any (v : Value) (r : Rcp) (hc : r.ids.length ≤ 1000000) (w : World) (hv : RcpV w w.heap.size v r) :
    Calls Tryz.prog 35 #[v] w fun e w' => e = .returned (idV (repOf r.ids)) ∧ Below w.heap.size w w' := by
  obtain ⟨sl, rfl, hrd⟩ := hv
  have hb0 : Below w.heap.size w ((w.alloc (.cells #[VT r.name, .int .i64 r.len, .int .u32 (r.print : Int), sl] 36)).alloc (.cells #[.int .u32 0, .int .i64 0] 71)) := ((Below.refl _ w).alloc (Nat.le_refl _) _).alloc (by simp) _
  have hbx : Box4 w.heap.size (VT r.name) (.int .i64 r.len) (.int .u32 (r.print : Int)) sl ((w.alloc (.cells #[VT r.name, .int .i64 r.len, .int .u32 (r.print : Int), sl] 36)).alloc (.cells #[.int .u32 0, .int .i64 0] 71)) := (Box4.mk' w _ _ _ _ _).below ((Below.refl (w.alloc _).heap.size (w.alloc _)).alloc (Nat.le_refl _) _) (by simp)
  have hbr : Box2 (w.heap.size + 1) (.int .u32 0) (.int .i64 0) ((w.alloc (.cells #[VT r.name, .int .i64 r.len, .int .u32 (r.print : Int), sl] 36)).alloc (.cells #[.int .u32 0, .int .i64 0] 71)) := by
    have := Box2.mk' (w.alloc (.cells #[VT r.name, .int .i64 r.len, .int .u32 (r.print : Int), sl] 36)) (.int .u32 0) (.int .i64 0) 71
    simpa using this
  have hrd0 := (hrd.keep hb0 (Nat.le_refl _)).more hb0.size
  obtain ⟨A, c, rfl, hcap, _⟩ := hrd.form
  obtain ⟨c0, c1, c2, c3, _⟩ := hbx
  have HB0 := Lib.hid hb0
  have HBR := Lib.hid hbr
  have HRD := Lib.hid hrd0
  have ID0 : ∀ w, Calls Tryz.prog 45 #[.string ⟨#[]⟩] w fun e w' => e = .returned (idV (idOf [])) ∧ Below w.heap.size w w' := fun w => ID_any ⟨#[]⟩ w (by decide)
  have HID := Lib.hid ID0
  clear hb0 hbr hrd hrd0 ID0
  by_cases hz : r.ids = []
  · have HR : Hid (repOf r.ids = idOf []) := Lib.hid (by rw [hz]; rfl)
    have hl : r.ids.length = 0 := by rw [hz]; rfl
    have hli : ((r.ids.length : Int) == 0) = true := by rw [hl]; rfl
    clear hz hl
    go_enter Tryz.func35, Tryz.ntmps35
    go_wp2_with fail
    refine (HID.out _).mono ?_
    rintro e w1 ⟨rfl, hb1⟩
    have hbr1 := HBR.out.below hb1 HBR.out.lt
    have HBR1 := Lib.hid hbr1
    obtain ⟨r0, r1, f0, f1⟩ := hbr1
    obtain ⟨t0, t1, t2⟩ := HBR1.out.rd (.int .u32 ((idOf []).1 : Int)) (.int .i64 (idOf []).2)
    have HB9 := Lib.hid (below_set2 (HB0.out.trans (hb1.mono HB0.out.size)) (Nat.le_succ _) (.int .u32 ((idOf []).1 : Int)) (.int .i64 (idOf []).2))
    clear hb1
    go_wp2
    refine bodyPost_ret (v := idV (idOf [])) (by simp [results, Tryz.results35, go_sem, t0, t1]) rfl ?_
    exact ⟨by rw [HR.out], HB9.out⟩
  · have hl : 0 < r.ids.length := List.length_pos_iff.2 hz
    have hli : ((r.ids.length : Int) == 0) = false := by rw [beq_eq_false_iff_ne]; omega
    have HM := Lib.hid (MinIDs_any _ r.ids hc hl _ HRD.out)
    clear hz
    go_enter Tryz.func35, Tryz.ntmps35
    go_wp2_with fail
    refine HM.out.mono ?_
    rintro e w1 ⟨rfl, hb1⟩
    have hbr1 := HBR.out.below hb1 HBR.out.lt
    have HBR1 := Lib.hid hbr1
    obtain ⟨r0, r1, f0, f1⟩ := hbr1
    obtain ⟨t0, t1, t2⟩ := HBR1.out.rd (.int .u32 ((repOf r.ids).1 : Int)) (.int .i64 (repOf r.ids).2)
    have HB9 := Lib.hid (below_set2 (HB0.out.trans (hb1.mono HB0.out.size)) (Nat.le_succ _) (.int .u32 ((repOf r.ids).1 : Int)) (.int .i64 (repOf r.ids).2))
    clear hb1
    go_wp2
    refine bodyPost_ret (v := idV (repOf r.ids)) (by simp [results, Tryz.results35, go_sem, t0, t1]) rfl ?_
    exact ⟨rfl, HB9.out⟩
end Go.Proofs.YtbokckjlgjnnjaaGreatDoor
/- Walks of the reference's SameIDs, SameRecipe at two of one content. No conditions but bounds. -/
namespace Go.Proofs.YtbokckjlgjnnjaaGreatDoor
open Go.RowKit Go.Lib

set_option maxRecDepth 100000 in
set_option maxHeartbeats 1000000 in
theorem SameIDs_same (va vb : Value) (L : IdL) (hL : L.length ≤ 1000000) (w : World) (ha : RdI w w.heap.size va L) (hb : RdI w w.heap.size vb L) :
    Calls Tryz.prog 51 #[va, vb] w fun e w' => e = .returned (.bool true) ∧ Below w.heap.size w w' := by
  obtain ⟨A, c, rfl, _, hca⟩ := ha.form
  obtain ⟨A', c', rfl, _, hcb⟩ := hb.form
  have HA := Lib.hid hca
  have HB := Lib.hid hcb
  have hll : ((L.length : Int) != (L.length : Int)) = false := by simp
  clear ha hb hca hcb
  go_enter Tryz.func51, Tryz.ntmps51
  go_wp2
  go_loopg [5] L.length (fun gh vi wr => ∃ k : Nat, vi = .int .i64 k ∧ k ≤ L.length ∧ gh = L.length - k ∧ Below w.heap.size w wr)
  case atStart => exact ⟨0, rfl, Nat.zero_le _, rfl, Below.refl _ _⟩
  case round =>
    obtain ⟨k, rfl, hk, hgm, hB⟩ := hrel
    by_cases hkl : k < L.length
    · obtain ⟨g, o, rfl, hg, hx⟩ := HA.out (by omega)
      obtain ⟨g', o', rfl, hg', hx'⟩ := HB.out (by omega)
      obtain ⟨x0, x1⟩ := hx k hkl
      obtain ⟨y0, y1⟩ := hx' k hkl
      have X0 := Lib.hid ((hB.cell (p := ⟨g, o + k * 2, none⟩) hg).trans x0)
      have X1 := Lib.hid ((hB.cell (p := ⟨g, o + k * 2 + 1, none⟩) hg).trans x1)
      have Y0 := Lib.hid ((hB.cell (p := ⟨g', o' + k * 2, none⟩) hg').trans y0)
      have Y1 := Lib.hid ((hB.cell (p := ⟨g', o' + k * 2 + 1, none⟩) hg').trans y1)
      have hgr : g < wr.heap.size := Nat.lt_of_lt_of_le hg hB.size
      have hgr' : g' < wr.heap.size := Nat.lt_of_lt_of_le hg' hB.size
      have b1 : (0 : Int) ≤ (k : Int) := by omega
      have b2 : (k : Int) < (L.length : Int) := by omega
      clear hx hx' x0 x1 y0 y1
      go_wp2
      have hS0 : Below wr.heap.size wr wr.drew := (Below.refl _ _).drew
      refine region_S (fun w' => Below wr.heap.size wr w') 8 (by kernel_rfl) (by kernel_rfl) ?_
      refine take_S 0 rfl (by kernel_rfl) (by kernel_rfl) hS0 (fun w' hS => by go_simp; rfl) ?_
      refine take_S 1 rfl (by kernel_rfl) (by kernel_rfl) hS0 (fun w' hS => by go_simp; rfl) ?_
      refine take_S 2 rfl (by kernel_rfl) (by kernel_rfl) hS0 (fun w' hS => by go_simp; rfl) ?_
      refine take_S 3 rfl (by kernel_rfl) (by kernel_rfl) hS0 (fun w' hS => by have B0 := (hS.cell (p := ⟨g, o + k * 2, none⟩) hgr).trans X0.out; have B1 := (hS.cell (p := ⟨g, o + k * 2 + 1, none⟩) hgr).trans X1.out; go_simp; rfl) ?_
      refine take_S 4 rfl (by kernel_rfl) (by kernel_rfl) hS0 (fun w' hS => by go_simp; rfl) ?_
      refine take_S 5 rfl (by kernel_rfl) (by kernel_rfl) hS0 (fun w' hS => by go_simp; rfl) ?_
      refine take_S 6 rfl (by kernel_rfl) (by kernel_rfl) hS0 (fun w' hS => by go_simp; rfl) ?_
      refine take_S 7 rfl (by kernel_rfl) (by kernel_rfl) hS0 (fun w' hS => by have B0 := (hS.cell (p := ⟨g', o' + k * 2, none⟩) hgr').trans Y0.out; have B1 := (hS.cell (p := ⟨g', o' + k * 2 + 1, none⟩) hgr').trans Y1.out; go_simp; rfl) (forced_S (by kernel_rfl) ?_)
      try simp only [Act.put, List.getElem_toArray, List.getElem_cons_succ, List.getElem_cons_zero, List.setIfInBounds_toArray, List.set_cons_zero, List.set_cons_succ]
      simp only [List.drop_succ_cons, List.drop_zero]
      go_wp2
      go_roundg (L.length - (k + 1))
      case measure => omega
      case rel => exact ⟨k + 1, by go_num, hkl, rfl, hB.drew⟩
    · obtain rfl : k = L.length := by omega
      go_wp2
      go_ret
      exact ⟨rfl, hB⟩
set_option maxRecDepth 100000 in
set_option maxHeartbeats 1000000 in
theorem SameRecipe_same (va vb : Value) (r : Rcp) (hL : r.ids.length ≤ 1000000) (w : World) (ha : RcpV w w.heap.size va r) (hb : RcpV w w.heap.size vb r) :
    Calls Tryz.prog 12 #[va, vb] w fun e w' => e = .returned (.bool true) ∧ Below w.heap.size w w' := by
  obtain ⟨sa, rfl, hra⟩ := ha
  obtain ⟨sb, rfl, hrb⟩ := hb
  have hb0 : Below w.heap.size w ((w.alloc (.cells #[VT r.name, .int .i64 r.len, .int .u32 (r.print : Int), sa] 36)).alloc (.cells #[VT r.name, .int .i64 r.len, .int .u32 (r.print : Int), sb] 36)) := ((Below.refl _ w).alloc (Nat.le_refl _) _).alloc (by simp) _
  have h1 : Box4 w.heap.size (VT r.name) (.int .i64 r.len) (.int .u32 (r.print : Int)) sa ((w.alloc (.cells #[VT r.name, .int .i64 r.len, .int .u32 (r.print : Int), sa] 36)).alloc (.cells #[VT r.name, .int .i64 r.len, .int .u32 (r.print : Int), sb] 36)) := (Box4.mk' w _ _ _ _ _).below ((Below.refl (w.alloc _).heap.size (w.alloc _)).alloc (Nat.le_refl _) _) (by simp)
  have h2 : Box4 (w.heap.size + 1) (VT r.name) (.int .i64 r.len) (.int .u32 (r.print : Int)) sb ((w.alloc (.cells #[VT r.name, .int .i64 r.len, .int .u32 (r.print : Int), sa] 36)).alloc (.cells #[VT r.name, .int .i64 r.len, .int .u32 (r.print : Int), sb] 36)) := by
    have := Box4.mk' (w.alloc (.cells #[VT r.name, .int .i64 r.len, .int .u32 (r.print : Int), sa] 36)) (VT r.name) (.int .i64 r.len) (.int .u32 (r.print : Int)) sb 36
    simpa using this
  have S := Lib.hid (SameIDs_same sa sb r.ids hL ((w.alloc (.cells #[VT r.name, .int .i64 r.len, .int .u32 (r.print : Int), sa] 36)).alloc (.cells #[VT r.name, .int .i64 r.len, .int .u32 (r.print : Int), sb] 36)) ((hra.keep hb0 (Nat.le_refl _)).more hb0.size) ((hrb.keep hb0 (Nat.le_refl _)).more hb0.size))
  obtain ⟨A, c, rfl, _, _⟩ := hra.form
  obtain ⟨A', c', rfl, _, _⟩ := hrb.form
  obtain ⟨c0, c1, c2, c3, _⟩ := h1
  obtain ⟨d0, d1, d2, d3, _⟩ := h2
  have e0 : ((bs r.name).toList == (bs r.name).toList) = true := by simp
  have e1 : (r.len == r.len) = true := by simp
  have e2 : ((r.print : Int) == (r.print : Int)) = true := by simp
  have HB0 := Lib.hid hb0
  clear hra hrb hb0
  go_enter Tryz.func12, Tryz.ntmps12
  go_wp2_with fail
  refine S.out.mono ?_
  rintro e w3 ⟨rfl, hb3⟩
  go_wp2
  go_ret
  exact ⟨rfl, HB0.out.trans (hb3.mono HB0.out.size)⟩
end Go.Proofs.YtbokckjlgjnnjaaGreatDoor
/- Walk of cooked (a closed fact). Condition: the sentinels and tables lie as the text lays them (RbW). -/
namespace Go.Proofs.YtbokckjlgjnnjaaGreatDoor
open Go.RowKit Go.Lib

structure RbW (a : Nat → Addr) (w : World) : Prop where
  s : Sents a w
  t : Tabs w
  m : MaxL w
  p : Perrs w
theorem RbW.below {a : Nat → Addr} {w w' : World} (h : RbW a w) (hb : Below w.heap.size w w') : RbW a w' := ⟨h.s.below hb, h.t.below hb, h.m.below hb, h.p.below hb⟩
theorem RbW.rc {a : Nat → Addr} {w : World} (h : RbW a w) : RcW a w := ⟨h.s.someS _ (by decide), h.t, h.m, h.p⟩
theorem RbW.five {a : Nat → Addr} {w : World} (h : RbW a w) : SomeS [1, 2, 3, 6, 8] a w := h.s.someS _ (by decide)
theorem RbW.two {a : Nat → Addr} {w : World} (h : RbW a w) : SomeS [1, 3] a w := h.s.someS _ (by decide)
theorem evErrV {a : Nat → Addr} {v : Value} {c t : Int} {w : World} (h : EV a v c t w) (hs : Sents a w) : ErrV a v c t w := by
  rcases h with ⟨rfl, rfl, rfl⟩ | ⟨k, hk, rfl, rfl, rfl⟩ | ⟨k, b, o, hk, rfl, rfl, h3, h4⟩
  · exact ErrV.none a w
  · exact ErrV.sent hs k hk
  · exact ErrV.fault hs k hk h3 h4
def helloL : Bytes := [104, 101, 108, 108, 111]
def rcpHello : Rcp := ⟨[97], 5, prOf helloL, [(prOf helloL, 5)]⟩
theorem pieces_hello : pieces helloL = [helloL] := by decide
theorem rcpOf_hello : rcpOf [97] helloL = rcpHello := by
  unfold rcpOf idsOf
  rw [pieces_hello]; rfl
theorem ofRes_hello : ofRes [97] helloL = (0, rcpHello) := by
  unfold ofRes
  rw [if_neg (by decide), if_neg (by decide), rcpOf_hello]
theorem join_hello : joinRes rcpHello [helloL] = (helloL, 0, -1) := by
  have := joinRes_of (name := [97]) (s := helloL) (by decide) (by decide)
  rw [rcpOf_hello, pieces_hello] at this
  exact this
theorem bnd_hello : RcpB rcpHello := ⟨by decide, by decide, by decide, prOf_lt _, by decide, fun x hx => by
  rw [List.mem_singleton.1 hx]
  exact ⟨prOf_lt _, by decide, by decide⟩⟩
set_option maxRecDepth 100000 in
set_option maxHeartbeats 2000000 in
theorem cooked_any (a : Nat → Addr) (w : World) (h : RbW a w) : Calls Tryz.prog 26 #[] w fun e w' => e = .returned (.bool true) ∧ Below w.heap.size w w' := by
  have H := Lib.hid h
  have OF := Lib.hid (RcOf_any a ⟨#[97]⟩ ⟨#[104, 101, 108, 108, 111]⟩ (by decide) w h.two)
  clear h
  go_enter Tryz.func26, Tryz.ntmps26
  go_wp2_with fail
  refine OF.out.mono ?_
  rintro e w1 ⟨v, x, rfl, hev, hv, hb1⟩
  rw [show ofRes (⟨#[97]⟩ : ByteArray).data.toList (⟨#[104, 101, 108, 108, 111]⟩ : ByteArray).data.toList = (0, rcpHello) from ofRes_hello] at hev hv
  obtain ⟨rfl, _⟩ := hev.nil rfl
  obtain ⟨sl, hv, hrd⟩ := hv
  obtain ⟨A, c, rfl, hcap, _⟩ := hrd.form
  have hv' : v = .agg #[.string ⟨#[97]⟩, .int .i64 5, .int .u32 ((prOf helloL : Nat) : Int), .slice A 1 c] := hv
  subst hv'
  have hA := ((Below.refl w1.heap.size w1).alloc (Nat.le_refl _) (.cells #[.string ⟨#[97]⟩, .int .i64 5, .int .u32 ((prOf helloL : Nat) : Int), .slice A 1 c] 36)).alloc (by simp) (.cells #[.string ⟨#[104, 101, 108, 108, 111]⟩] 9)
  have hbx : Box4 w1.heap.size (.string ⟨#[97]⟩) (.int .i64 5) (.int .u32 ((prOf helloL : Nat) : Int)) (.slice A 1 c) ((w1.alloc (.cells #[.string ⟨#[97]⟩, .int .i64 5, .int .u32 ((prOf helloL : Nat) : Int), .slice A 1 c] 36)).alloc (.cells #[.string ⟨#[104, 101, 108, 108, 111]⟩] 9)) := (Box4.mk' w1 _ _ _ _ _).below ((Below.refl (w1.alloc _).heap.size (w1.alloc _)).alloc (Nat.le_refl _) _) (by simp)
  have hl : ((w1.alloc (.cells #[.string ⟨#[97]⟩, .int .i64 5, .int .u32 ((prOf helloL : Nat) : Int), .slice A 1 c] 36)).alloc (.cells #[.string ⟨#[104, 101, 108, 108, 111]⟩] 9)).ownsRow (w1.heap.size + 1) 9 1 (.slice (some ⟨w1.heap.size + 1, 0, none⟩) 1 1) 1 ([helloL].map VT) := by
    have := World.ownsRow_lit (base := w1.heap.size + 1) (e := 9) (size := 1) (w1.alloc (.cells #[.string ⟨#[97]⟩, .int .i64 5, .int .u32 ((prOf helloL : Nat) : Int), .slice A 1 c] 36)) #[.string ⟨#[104, 101, 108, 108, 111]⟩] 1 (by simp) (by decide) rfl
    rw [show [helloL].map VT = [.string ⟨#[104, 101, 108, 108, 111]⟩] from rfl]
    simpa using this
  have J := Lib.hid (RcJoin_any a (.agg #[.string ⟨#[97]⟩, .int .i64 5, .int .u32 ((prOf helloL : Nat) : Int), .slice A 1 c]) _ rcpHello bnd_hello [helloL] (by decide) (by decide) _ ⟨_, rfl, (hrd.keep hA (Nat.le_refl _)).more hA.size⟩ (Rd.own (n := 1) hl) ((H.out.below (hb1.trans (hA.mono hb1.size))).five))
  have HB := Lib.hid (hb1.trans (hA.mono hb1.size))
  have HBX := Lib.hid hbx
  have HRD := Lib.hid ((hrd.keep hA (Nat.le_refl _)).more hA.size)
  clear hA hbx hl hrd hev hb1 hv
  go_wp2_with fail
  refine J.out.mono ?_
  rintro e w3 ⟨x, rfl, hev, hb3⟩
  rw [join_hello] at hev ⊢
  obtain ⟨rfl, _⟩ := hev.nil rfl
  obtain ⟨c0, c1, c2, c3, _⟩ := HBX.out.below hb3 HBX.out.lt
  have RP := Lib.hid (RcRep_any (.agg #[.string ⟨#[97]⟩, .int .i64 5, .int .u32 ((prOf helloL : Nat) : Int), .slice A 1 c]) rcpHello (by decide) w3 ⟨_, rfl, (HRD.out.keep hb3 (Nat.le_refl _)).more hb3.size⟩)
  have hh : (bs helloL).toList = [104, 101, 108, 108, 111] := by rw [ByteArray.toList_eq, bs_toList]; rfl
  have HID : Hid (∀ w, Calls Tryz.prog 45 #[.string ⟨#[104, 101, 108, 108, 111]⟩] w fun e w' => e = .returned (.agg #[.int .u32 ((prOf helloL : Nat) : Int), .int .i64 5]) ∧ Below w.heap.size w w') := Lib.hid (fun w => ID_any ⟨#[104, 101, 108, 108, 111]⟩ w (by decide))
  have HB3 := Lib.hid (HB.out.trans (hb3.mono HB.out.size))
  clear hev hb3
  go_wp2_with fail
  refine RP.out.mono ?_
  rintro e w4 ⟨rfl, hb4⟩
  rw [show idV (repOf rcpHello.ids) = .agg #[.int .u32 ((prOf helloL : Nat) : Int), .int .i64 5] from rfl]
  go_wp2_with fail
  refine (HID.out _).mono ?_
  rintro e w5 ⟨rfl, hb5⟩
  have HB5 := Lib.hid ((HB3.out.trans (hb4.mono HB3.out.size)).trans (hb5.mono (Nat.le_trans HB3.out.size hb4.size)))
  go_wp2
  go_ret
  exact ⟨rfl, HB5.out⟩
end Go.Proofs.YtbokckjlgjnnjaaGreatDoor
/- A guarded operation that is not wanted, in a region that draws its order. Conditions: the closed facts that the law asks. -/
namespace Go.Proofs.YtbokckjlgjnnjaaGreatDoor
open Go.RowKit
section
variable {P : Program} {ops : Array Oper} {md : Region.Mode} {S : World → Prop} {n : Nat} {Q : Exit → Act → World → Prop} {f : Nat} {listed : Array Bool} {a : Act} {w : World}
/-- **pass over operation i, which its guard does not want** -/
theorem skip_S (i : Nat) {oi : Oper} (hi : ops[i]? = some oi) (hB : takeB md ops n i listed = true) (hw : Region.wanted oi (yielded ops a.tmps) = false) (hS : S w)
    (h : wpS P md ops S n (LS P md ops Q n) f (listed.setIfInBounds i true) (a.put oi.dst undef) w) :
    wpS P md ops S n (LS P md ops Q n) (f + 1) listed a w := by
  simp only [takeB, Bool.and_eq_true, decide_eq_true_eq] at hB
  obtain ⟨⟨⟨⟨⟨⟨⟨h1, h2⟩, h3⟩, h4⟩, h5⟩, h6⟩, h7⟩, h8⟩ := hB
  exact wpS_first hi (Region.noSelect_spec h2) h5 h6 h3 h4 (fun listed a w hL => seqB_ready hL.1) f listed a w (headB_inv h1) (Region.free_spec hi h7) (by simpa using h8)
    (.inr ⟨hw, rfl⟩) hS h
end
end Go.Proofs.YtbokckjlgjnnjaaGreatDoor

/- RrF, RrM, RrT, RrJ, RrR, RcO in one text. Conditions: as each part says. -/
import Derived.Test.YtbokckjlgjnnjaaGreatDoorRcp1
import Derived.Test.YtbokckjlgjnnjaaGreatDoorRefY
import Derived.Test.YtbokckjlgjnnjaaGreatDoorRcp2
import Derived.Test.YtbokckjlgjnnjaaGreatDoorPrR
import Derived.Test.YtbokckjlgjnnjaaGreatDoorRcr1
import Derived.Test.YtbokckjlgjnnjaaGreatDoorRcR
import Derived.Test.YtbokckjlgjnnjaaGreatDoorIds
import Derived.OwnWalk
/- Walks of the reference's Bare, Fine, RecipeFault. No conditions but bounds. -/
namespace Go.Proofs.YtbokckjlgjnnjaaGreatDoor
open Go.RowKit Go.Lib

abbrev fltV (f : Int × Int) : Value := .agg #[.int .i64 f.1, .int .i64 f.2]
theorem RBareF_any (c : Int) (w : World) : Calls Tryz.prog 55 #[.int .i64 c] w fun e w' => e = .returned (fltV (c, -1)) ∧ Below w.heap.size w w' := by
  have hb1 := fun x y => ((Below.refl w.heap.size w).alloc (Nat.le_refl _) (.cells #[x, y] 49))
  go_enter Tryz.func55, Tryz.ntmps55
  go_wp2
  go_returns
  exact ⟨rfl, hb1 _ _⟩
theorem RFine_any (w : World) : Calls Tryz.prog 57 #[] w fun e w' => e = .returned (fltV (0, -1)) ∧ Below w.heap.size w w' := by
  have hb1 := fun x y => ((Below.refl w.heap.size w).alloc (Nat.le_refl _) (.cells #[x, y] 49))
  go_enter Tryz.func57, Tryz.ntmps57
  go_wp2
  go_returns
  exact ⟨rfl, hb1 _ _⟩
def FltPost (r : Rcp) (w : World) (e : Ending) (w' : World) : Prop := e = .returned (fltV (rcpFault r)) ∧ Below w.heap.size w w'
set_option maxRecDepth 100000 in
set_option maxHeartbeats 2000000 in
theorem RRecipeFault_any (v : Value) (r : Rcp) (hb : RcpB r) (w : World) (hv : RcpV w w.heap.size v r) :
    Calls Tryz.prog 30 #[v] w (FltPost r w) := by
  obtain ⟨sl, rfl, hrd⟩ := hv
  obtain ⟨A, c, rfl, hcap, hcells⟩ := hrd.form
  have hb0 : Below w.heap.size w ((w.alloc (.cells #[VT r.name, .int .i64 r.len, .int .u32 (r.print : Int), .slice A r.ids.length c] 36)).alloc (.cells #[.int .i64 0, .int .i64 0] 49)) := ((Below.refl _ w).alloc (Nat.le_refl _) _).alloc (by simp) _
  have hbx : Box4 w.heap.size (VT r.name) (.int .i64 r.len) (.int .u32 (r.print : Int)) (.slice A r.ids.length c) ((w.alloc (.cells #[VT r.name, .int .i64 r.len, .int .u32 (r.print : Int), .slice A r.ids.length c] 36)).alloc (.cells #[.int .i64 0, .int .i64 0] 49)) := (Box4.mk' w _ _ _ _ _).below ((Below.refl (w.alloc _).heap.size (w.alloc _)).alloc (Nat.le_refl _) _) (by simp)
  have hbr : Box2 (w.heap.size + 1) (.int .i64 0) (.int .i64 0) ((w.alloc (.cells #[VT r.name, .int .i64 r.len, .int .u32 (r.print : Int), .slice A r.ids.length c] 36)).alloc (.cells #[.int .i64 0, .int .i64 0] 49)) := by
    have := Box2.mk' (w.alloc (.cells #[VT r.name, .int .i64 r.len, .int .u32 (r.print : Int), .slice A r.ids.length c] 36)) (.int .i64 0) (.int .i64 0) 49
    simpa using this
  have HC := Lib.hid hcells
  have HB0 := Lib.hid hb0
  have HBX := Lib.hid hbx
  have HBR := Lib.hid hbr
  have hnz : (bs r.name).size ≤ 9223372036854775807 := by rw [bs_size]; have := hb.n; omega
  have hlz := hb.c
  have HN2 := Lib.hid (bs_toList r.name)
  have NAME := Lib.hid (fun w => RIsName_any (bs r.name) hnz w)
  obtain ⟨c0, c1, c2, c3, _⟩ := hbx
  have fin : ∀ (w1 : World) (f : Int × Int), Below ((w.alloc (.cells #[VT r.name, .int .i64 r.len, .int .u32 (r.print : Int), .slice A r.ids.length c] 36)).alloc (.cells #[.int .i64 0, .int .i64 0] 49)).heap.size ((w.alloc (.cells #[VT r.name, .int .i64 r.len, .int .u32 (r.print : Int), .slice A r.ids.length c] 36)).alloc (.cells #[.int .i64 0, .int .i64 0] 49)) w1 →
      Box2 (w.heap.size + 1) (.int .i64 0) (.int .i64 0) w1 ∧ Below w.heap.size w ((w1.setCell ⟨w.heap.size + 1, 0, none⟩ (.int .i64 f.1)).setCell ⟨w.heap.size + 1, 1, none⟩ (.int .i64 f.2)) := fun w1 f h1 =>
    ⟨HBR.out.below h1 HBR.out.lt, below_set2 (HB0.out.trans (h1.mono HB0.out.size)) (Nat.le_succ _) _ _⟩
  have FIN := Lib.hid fin
  clear hcells hrd hb0 hbr fin
  cases hN : isName r.name with
  | false =>
    have HF : Hid (rcpFault r = (4, -1)) := Lib.hid (if_pos hN)
    have HNM := Lib.hid hN
    clear hN
    go_enter Tryz.func30, Tryz.ntmps30
    go_wp2_with fail
    refine (NAME.out _).mono ?_
    rintro e w1 ⟨rfl, rfl⟩
    rw [HN2.out, HNM.out]
    go_wp2_with fail
    refine (RBareF_any 4 _).mono ?_
    rintro e w1 ⟨rfl, hb1⟩
    obtain ⟨hbr1, hB9⟩ := FIN.out w1 (4, -1) hb1
    have HBR1 := Lib.hid hbr1
    obtain ⟨r0, r1, f0, f1⟩ := hbr1
    obtain ⟨t0, t1, t2⟩ := HBR1.out.rd (.int .i64 4) (.int .i64 (-1))
    have HB9 := Lib.hid hB9
    clear hb1 hB9
    go_wp2
    refine bodyPost_ret (v := fltV (4, -1)) (by simp [results, Tryz.results30, go_sem, t0, t1]) rfl ?_
    exact ⟨by rw [HF.out], HB9.out⟩
  | true =>
    have HNM := Lib.hid hN
    have hnf : ¬ isName r.name = false := by rw [hN]; simp
    clear hN
    by_cases h1 : r.len < 0
    · have HF : Hid (rcpFault r = (2, -1)) := Lib.hid ((if_neg hnf).trans (if_pos (.inl h1)))
      clear hnf
      go_enter Tryz.func30, Tryz.ntmps30
      go_wp2_with fail
      refine (NAME.out _).mono ?_
      rintro e w1 ⟨rfl, rfl⟩
      rw [HN2.out, HNM.out]
      go_wp2_with fail
      refine (RBareF_any 2 _).mono ?_
      rintro e w1 ⟨rfl, hb1⟩
      obtain ⟨hbr1, hB9⟩ := FIN.out w1 (2, -1) hb1
      have HBR1 := Lib.hid hbr1
      obtain ⟨r0, r1, f0, f1⟩ := hbr1
      obtain ⟨t0, t1, t2⟩ := HBR1.out.rd (.int .i64 2) (.int .i64 (-1))
      have HB9 := Lib.hid hB9
      clear hb1 hB9
      go_wp2
      refine bodyPost_ret (v := fltV (2, -1)) (by simp [results, Tryz.results30, go_sem, t0, t1]) rfl ?_
      exact ⟨by rw [HF.out], HB9.out⟩
    · by_cases h2 : 4000 < r.len
      · have HF : Hid (rcpFault r = (2, -1)) := Lib.hid ((if_neg hnf).trans (if_pos (.inr h2)))
        clear hnf
        go_enter Tryz.func30, Tryz.ntmps30
        go_wp2_with fail
        refine (NAME.out _).mono ?_
        rintro e w1 ⟨rfl, rfl⟩
        rw [HN2.out, HNM.out]
        go_wp2_with fail
        refine (RBareF_any 2 _).mono ?_
        rintro e w1 ⟨rfl, hb1⟩
        obtain ⟨hbr1, hB9⟩ := FIN.out w1 (2, -1) hb1
        have HBR1 := Lib.hid hbr1
        obtain ⟨r0, r1, f0, f1⟩ := hbr1
        obtain ⟨t0, t1, t2⟩ := HBR1.out.rd (.int .i64 2) (.int .i64 (-1))
        have HB9 := Lib.hid hB9
        clear hb1 hB9
        go_wp2
        refine bodyPost_ret (v := fltV (2, -1)) (by simp [results, Tryz.results30, go_sem, t0, t1]) rfl ?_
        exact ⟨by rw [HF.out], HB9.out⟩
      · by_cases h3 : 250 < r.ids.length
        · have h3i : 250 < (r.ids.length : Int) := by omega
          have HF : Hid (rcpFault r = (7, -1)) := Lib.hid ((if_neg hnf).trans ((if_neg (by omega)).trans (if_pos h3)))
          clear hnf h3
          go_enter Tryz.func30, Tryz.ntmps30
          go_wp2_with fail
          refine (NAME.out _).mono ?_
          rintro e w1 ⟨rfl, rfl⟩
          rw [HN2.out, HNM.out]
          go_wp2_with fail
          refine (RBareF_any 7 _).mono ?_
          rintro e w1 ⟨rfl, hb1⟩
          obtain ⟨hbr1, hB9⟩ := FIN.out w1 (7, -1) hb1
          have HBR1 := Lib.hid hbr1
          obtain ⟨r0, r1, f0, f1⟩ := hbr1
          obtain ⟨t0, t1, t2⟩ := HBR1.out.rd (.int .i64 7) (.int .i64 (-1))
          have HB9 := Lib.hid hB9
          clear hb1 hB9
          go_wp2
          refine bodyPost_ret (v := fltV (7, -1)) (by simp [results, Tryz.results30, go_sem, t0, t1]) rfl ?_
          exact ⟨by rw [HF.out], HB9.out⟩
        · have h3i : ¬ 250 < (r.ids.length : Int) := by omega
          have HF0 : Hid (rcpFault r = idsFault r.len 0 0 r.ids) := Lib.hid ((if_neg hnf).trans ((if_neg (by omega)).trans (if_neg h3)))
          have HD : Hid (r.ids.drop r.ids.length = []) := Lib.hid (List.drop_eq_nil_of_le (Nat.le_refl _))
          clear hnf
          go_enter Tryz.func30, Tryz.ntmps30
          go_wp2_with fail
          refine (NAME.out _).mono ?_
          rintro e w1 ⟨rfl, rfl⟩
          rw [HN2.out, HNM.out]
          go_wp2
          generalize (w.alloc (.cells #[VT r.name, .int .i64 r.len, .int .u32 (r.print : Int), .slice A r.ids.length c] 36)).alloc (.cells #[.int .i64 0, .int .i64 0] 49) = w0 at *
          go_loopg [4, 5] r.ids.length (fun gh va vi wr => w0 = wr ∧ ∃ (k : Nat) (n : Int), vi = .int .i64 k ∧ va = .int .i64 n ∧ k ≤ r.ids.length ∧ gh = r.ids.length - k ∧ 0 ≤ n ∧ n ≤ 64 * (k : Int) ∧ Hid (idsFault r.len 0 0 r.ids = idsFault r.len k n (r.ids.drop k)))
          case atStart => exact ⟨rfl, 0, 0, rfl, rfl, Nat.zero_le _, rfl, by omega, by omega, Lib.hid rfl⟩
          case round =>
            obtain ⟨rfl, k, n, rfl, rfl, hk, hgm, hn0, hn1, hI⟩ := hrel
            by_cases hkl : k < r.ids.length
            · obtain ⟨g, o, rfl, hg, hx⟩ := HC.out (by omega)
              obtain ⟨x0, x1⟩ := hx k hkl
              have y1 := (HB0.out.cell (p := ⟨g, o + k * 2 + 1, none⟩) hg).trans x1
              have b1 : (0 : Int) ≤ (k : Int) := by omega
              have b2 : (k : Int) < (r.ids.length : Int) := by omega
              clear hx x0 x1
              by_cases hbad : r.ids[k].2 < 1 ∨ 64 < r.ids[k].2
              · have HF : Hid (rcpFault r = (3, (k : Int))) := Lib.hid (HF0.out.trans (hI.out.trans (fault_hit hkl hbad)))
                obtain ⟨r0, r1, f0, f1⟩ := HBR.out
                obtain ⟨t0, t1, t2⟩ := HBR.out.rd (.int .i64 3) (.int .i64 (k : Int))
                have HB9 := Lib.hid (below_set2 HB0.out (Nat.le_succ _) (.int .i64 3) (.int .i64 (k : Int)))
                clear hI
                rcases hbad with h5 | h5
                · go_wp2
                  refine bodyPost_ret (v := fltV (3, (k : Int))) (by simp [results, Tryz.results30, go_sem, t0, t1]) rfl ?_
                  exact ⟨by rw [HF.out], HB9.out⟩
                · have h6 : ¬ r.ids[k].2 < 1 := by omega
                  go_wp2
                  refine bodyPost_ret (v := fltV (3, (k : Int))) (by simp [results, Tryz.results30, go_sem, t0, t1]) rfl ?_
                  exact ⟨by rw [HF.out], HB9.out⟩
              · have HN := Lib.hid (hI.out.trans (fault_next hkl hbad))
                have h5 : ¬ r.ids[k].2 < 1 := by omega
                have h6 : ¬ 64 < r.ids[k].2 := by omega
                clear hI hbad
                go_wp2
                go_roundg (r.ids.length - (k + 1))
                case measure => omega
                case rel => exact ⟨rfl, k + 1, n + r.ids[k].2, by go_num, by go_num, hkl, rfl, by omega, by omega, HN⟩
            · obtain rfl : k = r.ids.length := by omega
              have hI2 := HF0.out.trans hI.out
              rw [HD.out] at hI2
              by_cases hn : n = r.len
              · have hni : (n != r.len) = false := by rw [hn]; simp
                have HF : Hid (rcpFault r = (0, -1)) := Lib.hid (hI2.trans (if_pos hn))
                clear hI hI2 hn
                go_wp2_with fail
                refine (RFine_any _).mono ?_
                rintro e w1 ⟨rfl, hb1⟩
                obtain ⟨hbr1, hB9⟩ := FIN.out w1 (0, -1) hb1
                have HBR1 := Lib.hid hbr1
                obtain ⟨r0, r1, f0, f1⟩ := hbr1
                obtain ⟨t0, t1, t2⟩ := HBR1.out.rd (.int .i64 0) (.int .i64 (-1))
                have HB9 := Lib.hid hB9
                clear hb1 hB9
                go_wp2
                refine bodyPost_ret (v := fltV (0, -1)) (by simp [results, Tryz.results30, go_sem, t0, t1]) rfl ?_
                exact ⟨by rw [HF.out], HB9.out⟩
              · have hni : (n != r.len) = true := by simpa using hn
                have HF : Hid (rcpFault r = (9, -1)) := Lib.hid (hI2.trans (if_neg hn))
                clear hI hI2 hn
                go_wp2_with fail
                refine (RBareF_any 9 _).mono ?_
                rintro e w1 ⟨rfl, hb1⟩
                obtain ⟨hbr1, hB9⟩ := FIN.out w1 (9, -1) hb1
                have HBR1 := Lib.hid hbr1
                obtain ⟨r0, r1, f0, f1⟩ := hbr1
                obtain ⟨t0, t1, t2⟩ := HBR1.out.rd (.int .i64 9) (.int .i64 (-1))
                have HB9 := Lib.hid hB9
                clear hb1 hB9
                go_wp2
                refine bodyPost_ret (v := fltV (9, -1)) (by simp [results, Tryz.results30, go_sem, t0, t1]) rfl ?_
                exact ⟨by rw [HF.out], HB9.out⟩
end Go.Proofs.YtbokckjlgjnnjaaGreatDoor
/- Walk of the reference's RepOf. No conditions but bounds. -/
namespace Go.Proofs.YtbokckjlgjnnjaaGreatDoor
open Go.RowKit Go.Lib

set_option maxRecDepth 100000 in
set_option maxHeartbeats 2000000 in
theorem RRepOf_any (v : Value) (r : Rcp) (hc : r.ids.length ≤ 1000000) (w : World) (hv : RcpV w w.heap.size v r) :
    Calls Tryz.prog 36 #[v] w fun e w' => e = .returned (idV (repOf r.ids)) ∧ Below w.heap.size w w' := by
  obtain ⟨sl, rfl, hrd⟩ := hv
  have hb0 : Below w.heap.size w ((w.alloc (.cells #[VT r.name, .int .i64 r.len, .int .u32 (r.print : Int), sl] 36)).alloc (.cells #[.int .u32 0, .int .i64 0] 71)) := ((Below.refl _ w).alloc (Nat.le_refl _) _).alloc (by simp) _
  have hbx : Box4 w.heap.size (VT r.name) (.int .i64 r.len) (.int .u32 (r.print : Int)) sl ((w.alloc (.cells #[VT r.name, .int .i64 r.len, .int .u32 (r.print : Int), sl] 36)).alloc (.cells #[.int .u32 0, .int .i64 0] 71)) := (Box4.mk' w _ _ _ _ _).below ((Below.refl (w.alloc _).heap.size (w.alloc _)).alloc (Nat.le_refl _) _) (by simp)
  have hbr : Box2 (w.heap.size + 1) (.int .u32 0) (.int .i64 0) ((w.alloc (.cells #[VT r.name, .int .i64 r.len, .int .u32 (r.print : Int), sl] 36)).alloc (.cells #[.int .u32 0, .int .i64 0] 71)) := by
    have := Box2.mk' (w.alloc (.cells #[VT r.name, .int .i64 r.len, .int .u32 (r.print : Int), sl] 36)) (.int .u32 0) (.int .i64 0) 71
    simpa using this
  have hrd0 := (hrd.keep hb0 (Nat.le_refl _))
  obtain ⟨A, c, rfl, hcap, _⟩ := hrd.form
  have HB0 := Lib.hid hb0
  have HBR := Lib.hid hbr
  have HBX := Lib.hid hbx
  obtain ⟨_, _, hv1, _, hcells⟩ := hrd0.form
  injection hv1 with e1 e2 e3
  subst e1
  have HC := Lib.hid hcells
  obtain ⟨c0, c1, c2, c3, _⟩ := hbx
  have ID0 : ∀ w, Calls Tryz.prog 61 #[.string ⟨#[]⟩] w fun e w' => e = .returned (idV (idOf [])) ∧ Below w.heap.size w w' := fun w => IDOf_any ⟨#[]⟩ w (by decide)
  have HID := Lib.hid ID0
  have hsz0 : ((w.alloc (.cells #[VT r.name, .int .i64 r.len, .int .u32 (r.print : Int), .slice A r.ids.length c] 36)).alloc (.cells #[.int .u32 0, .int .i64 0] 71)).heap.size = w.heap.size + 2 := by simp
  clear hb0 hbr hrd hrd0 ID0 hcells e2 e3
  by_cases hz : r.ids = []
  · have HR : Hid (repOf r.ids = idOf []) := Lib.hid (by rw [hz]; rfl)
    have hl : r.ids.length = 0 := by rw [hz]; rfl
    have hli : ((r.ids.length : Int) == 0) = true := by rw [hl]; rfl
    clear hz hl hsz0
    go_enter Tryz.func36, Tryz.ntmps36
    go_wp2_with fail
    refine (HID.out _).mono ?_
    rintro e w1 ⟨rfl, hb1⟩
    have hbr1 := HBR.out.below hb1 HBR.out.lt
    have HBR1 := Lib.hid hbr1
    obtain ⟨r0, r1, f0, f1⟩ := hbr1
    obtain ⟨t0, t1, t2⟩ := HBR1.out.rd (.int .u32 ((idOf []).1 : Int)) (.int .i64 (idOf []).2)
    have HB9 := Lib.hid (below_set2 (HB0.out.trans (hb1.mono HB0.out.size)) (Nat.le_succ _) (.int .u32 ((idOf []).1 : Int)) (.int .i64 (idOf []).2))
    clear hb1
    go_wp2
    refine bodyPost_ret (v := idV (idOf [])) (by simp [results, Tryz.results36, go_sem, t0, t1]) rfl ?_
    exact ⟨by rw [HR.out], HB9.out⟩
  · have hl : 0 < r.ids.length := List.length_pos_iff.2 hz
    have hli : ((r.ids.length : Int) == 0) = false := by rw [beq_eq_false_iff_ne]; omega
    obtain ⟨g, o, rfl, hg, hx⟩ := HC.out hl
    obtain ⟨x0, x1⟩ := hx 0 hl
    simp only [Nat.zero_mul, Nat.add_zero] at x0 x1
    have h0j : 0 < (r.ids.length : Int) := by omega
    have HREP : Hid (repOf r.ids = repFrom r.ids[0] (r.ids.drop 1)) := Lib.hid (by
      conv => lhs; rw [← List.drop_zero (l := r.ids), List.drop_eq_getElem_cons hl]
      rfl)
    have HX := Lib.hid hx
    clear hz hx
    go_enter Tryz.func36, Tryz.ntmps36
    go_wp2
    generalize (w.alloc (.cells #[VT r.name, .int .i64 r.len, .int .u32 (r.print : Int), .slice (some ⟨g, o, none⟩) r.ids.length c] 36)).alloc (.cells #[.int .u32 0, .int .i64 0] 71) = w0 at *
    have hb1 : Below w0.heap.size w0 (w0.alloc (.cells #[.int .u32 (r.ids[0].1 : Int), .int .i64 r.ids[0].2] 71)) := (Below.refl _ w0).alloc (Nat.le_refl _) _
    have hm0 : Box2 w0.heap.size (.int .u32 (r.ids[0].1 : Int)) (.int .i64 r.ids[0].2) (w0.alloc (.cells #[.int .u32 (r.ids[0].1 : Int), .int .i64 r.ids[0].2] 71)) := Box2.mk' _ _ _ _
    generalize w0.alloc (.cells #[.int .u32 (r.ids[0].1 : Int), .int .i64 r.ids[0].2] 71) = w1 at *
    have HB01 := Lib.hid hb1
    rw [hsz0] at hm0
    have hlt0 := hm0.lt
    clear hb1 x0 x1
    go_loopg [4] (r.ids.length - 1) (fun gh vi wr => ∃ (k : Nat) (m : Idn), vi = .int .i64 k ∧ 1 ≤ k ∧ k ≤ r.ids.length ∧ gh = r.ids.length - k ∧ Hid (repOf r.ids = repFrom m (r.ids.drop k)) ∧ w1.grownBy wr (some (w.heap.size + 2)) ∧ Box2 (w.heap.size + 2) (.int .u32 (m.1 : Int)) (.int .i64 m.2) wr)
    case atStart => exact ⟨1, r.ids[0], rfl, by omega, hl, rfl, HREP, ⟨rfl, rfl, rfl, Nat.le_refl _, fun _ _ _ => rfl⟩, hm0⟩
    case round =>
      obtain ⟨k, m, rfl, hk1, hk, hgm, hI, hg9, hbm⟩ := hrel
      have hnew : ∀ b, b ≠ w.heap.size + 2 → some b ≠ some (w.heap.size + 2) := fun b hb e => hb (Option.some.inj e)
      have hbx9 := gb_box4 hg9 (hnew _ (by omega)) (HBX.out.below HB01.out (by omega))
      have HBX9 := Lib.hid hbx9
      have er3 := hbx9.c3
      by_cases hkl : k < r.ids.length
      · obtain ⟨x0, x1⟩ := HX.out k hkl
        have hg0 : g < w0.heap.size := by omega
        have hg1 : g < w1.heap.size := by omega
        have hgr : g < wr.heap.size := by have := hg9.size; omega
        have y0 := (hg9.cell_far ⟨g, o + k * 2, none⟩ hg1 (hnew _ (by show g ≠ _; omega))).trans ((HB01.out.cell (p := ⟨g, o + k * 2, none⟩) hg0).trans x0)
        have y1 := (hg9.cell_far ⟨g, o + k * 2 + 1, none⟩ hg1 (hnew _ (by show g ≠ _; omega))).trans ((HB01.out.cell (p := ⟨g, o + k * 2 + 1, none⟩) hg0).trans x1)
        have b1 : (0 : Int) ≤ (k : Int) := by omega
        have b2 : (k : Int) < (r.ids.length : Int) := by omega
        have Y0 := Lib.hid y0
        have Y1 := Lib.hid y1
        have HBM := Lib.hid hbm
        have HG := Lib.hid hg9
        clear x0 x1 y0 y1 hbm hg9 hbx9
        go_wp2
        have hS0 : Below wr.heap.size wr wr.drew := (Below.refl _ _).drew
        refine region_S (fun w' => Below wr.heap.size wr w') 7 (by kernel_rfl) (by kernel_rfl) ?_
        refine take_S 0 rfl (by kernel_rfl) (by kernel_rfl) hS0 (fun w' hS => by go_simp; rfl) ?_
        refine take_S 1 rfl (by kernel_rfl) (by kernel_rfl) hS0 (fun w' hS => by have A3 := (HBX9.out.below hS HBX9.out.lt).c3; go_simp; rfl) ?_
        refine take_S 2 rfl (by kernel_rfl) (by kernel_rfl) hS0 (fun w' hS => by go_simp; rfl) ?_
        refine take_S 3 rfl (by kernel_rfl) (by kernel_rfl) hS0 (fun w' hS => by go_simp; rfl) ?_
        refine take_S 4 rfl (by kernel_rfl) (by kernel_rfl) hS0 (fun w' hS => by have B0 := (hS.cell (p := ⟨g, o + k * 2, none⟩) hgr).trans Y0.out; have B1 := (hS.cell (p := ⟨g, o + k * 2 + 1, none⟩) hgr).trans Y1.out; go_simp; rfl) ?_
        refine take_S 5 rfl (by kernel_rfl) (by kernel_rfl) hS0 (fun w' hS => by have B0 := (HBM.out.below hS HBM.out.lt).c0; have B1 := (HBM.out.below hS HBM.out.lt).c1; go_simp; rfl) ?_
        refine carry_S 6 rfl (by kernel_rfl) (by decide) (by kernel_rfl) (fun K hK => ?_)
        go_simp
        refine (RIsLess_any r.ids[k].1 m.1 r.ids[k].2 m.2 _).mono ?_
        rintro e w4 ⟨rfl, hb4⟩
        have hS4 : Below wr.heap.size wr w4 := hS0.trans hb4
        refine hK _ _ hS4 (forced_S (by kernel_rfl) ?_)
        clear hK K
        try simp only [Act.put, List.getElem_toArray, List.getElem_cons_succ, List.getElem_cons_zero, List.setIfInBounds_toArray, List.set_cons_zero, List.set_cons_succ]
        simp only [List.drop_succ_cons, List.drop_zero]
        have HB4 := Lib.hid (gb_below HG.out hS4)
        have hbm4 := HBM.out.below hS4 HBM.out.lt
        have HBM4 := Lib.hid hbm4
        have er4 := (HBX9.out.below hS4 HBX9.out.lt).c3
        have y0 := (hS4.cell (p := ⟨g, o + k * 2, none⟩) hgr).trans Y0.out
        have y1 := (hS4.cell (p := ⟨g, o + k * 2 + 1, none⟩) hgr).trans Y1.out
        obtain ⟨m0, m1, f0, f1⟩ := hbm4
        cases hcc : lesser r.ids[k] m with
        | true =>
          have hci : lessId r.ids[k].1 m.1 r.ids[k].2 m.2 = true := hcc
          have HN := Lib.hid (hI.out.trans (rep_next_yes hkl hcc))
          rw [hci]
          clear hcc hci hI
          go_wp2
          go_roundg (r.ids.length - (k + 1))
          case measure => omega
          case rel => exact ⟨k + 1, r.ids[k], by go_num, by omega, hkl, rfl, HN, gb_set (gb_set HB4.out _ _) _ _, HBM4.out.set _ _⟩
        | false =>
          have hci : lessId r.ids[k].1 m.1 r.ids[k].2 m.2 = false := hcc
          have HN := Lib.hid (hI.out.trans (rep_next_no hkl hcc))
          rw [hci]
          clear hcc hci hI
          go_wp2
          go_roundg (r.ids.length - (k + 1))
          case measure => omega
          case rel => exact ⟨k + 1, m, by go_num, by omega, hkl, rfl, HN, HB4.out, HBM4.out⟩
      · obtain rfl : k = r.ids.length := by omega
        have hI2 : repOf r.ids = m := by rw [hI.out, List.drop_eq_nil_of_le (Nat.le_refl _)]; rfl
        have HI := Lib.hid hI2
        have hrr := gb_box2 hg9 (by omega) (HBR.out.below HB01.out (by omega))
        have HRR := Lib.hid hrr
        obtain ⟨r0, r1, f0, f1⟩ := hrr
        obtain ⟨m0, m1, _, _⟩ := hbm
        obtain ⟨t0, t1, t2⟩ := HRR.out.rd (.int .u32 (m.1 : Int)) (.int .i64 m.2)
        have HB9 := Lib.hid (below_set2 (gb_toBelow (HB0.out.trans (HB01.out.mono HB0.out.size)) (by omega) (by omega) hg9) (Nat.le_succ _) (.int .u32 (m.1 : Int)) (.int .i64 m.2))
        clear hI hI2 hg9
        go_wp2
        refine bodyPost_ret (v := idV m) (by simp [results, Tryz.results36, go_sem, t0, t1]) rfl ?_
        exact ⟨by rw [HI.out], HB9.out⟩
end Go.Proofs.YtbokckjlgjnnjaaGreatDoor
/- Walk of the reference's RecipeText, at a recipe without a fault. No conditions but bounds. -/
namespace Go.Proofs.YtbokckjlgjnnjaaGreatDoor
open Go.RowKit Go.Lib

def rcpPre (r : Rcp) (k : Nat) : Bytes := r.name ++ 32 :: (itoa r.len ++ 32 :: (hex8 r.print ++ idsText (r.ids.take k)))
theorem idsText_snoc : ∀ (L : IdL) (x : Idn), idsText (L ++ [x]) = idsText L ++ 32 :: idText x.1 x.2
  | [], x => by simp [idsText]
  | y :: r, x => by
    show 32 :: (idText y.1 y.2 ++ idsText (r ++ [x])) = 32 :: (idText y.1 y.2 ++ idsText r) ++ _
    rw [idsText_snoc r x]; simp
theorem rcpPre_next {r : Rcp} {k : Nat} (h : k < r.ids.length) : bs (rcpPre r (k + 1)) = bs (rcpPre r k) ++ ⟨#[32]⟩ ++ bs (idText r.ids[k].1 r.ids[k].2) := by
  rw [show (⟨#[32]⟩ : ByteArray) = bs [32] from rfl, cat_bs, cat_bs]
  congr 1
  unfold rcpPre
  rw [List.take_succ_eq_append_getElem h, idsText_snoc]
  simp
theorem rcpPre_zero (r : Rcp) : bs (rcpPre r 0) = bs r.name ++ ⟨#[32]⟩ ++ bs (itoa r.len) ++ ⟨#[32]⟩ ++ bs (hex8 r.print) := by
  rw [show (⟨#[32]⟩ : ByteArray) = bs [32] from rfl, cat_bs, cat_bs, cat_bs, cat_bs]
  congr 1
  unfold rcpPre
  simp [idsText]
theorem rcpPre_le {r : Rcp} (h : (rcpFault r).1 = 0) (k : Nat) : (rcpPre r k).length ≤ 4000 := by
  obtain ⟨h1, h2, h3, h4, h5⟩ := rcpFault_name h
  have h6 := idsText_le (r.ids.take k) (fun x hx => idsFault_lens _ _ 0 0 (show (idsFault r.len 0 0 r.ids).1 = 0 by rw [h5]) x (List.mem_of_mem_take hx))
  have h7 := isName_le h1
  have h8 := itoa_le4 h2 h3
  have h9 : (r.ids.take k).length ≤ 250 := by rw [List.length_take]; omega
  unfold rcpPre
  rw [List.length_append, List.length_cons, List.length_append, List.length_cons, List.length_append, show (hex8 r.print).length = 8 from hexL_length _ _]
  omega
set_option maxRecDepth 100000 in
set_option maxHeartbeats 2000000 in
theorem RRecipeText_any (v : Value) (r : Rcp) (hb : RcpB r) (hf : (rcpFault r).1 = 0) (w : World) (hv : RcpV w w.heap.size v r) :
    Calls Tryz.prog 32 #[v] w fun e w' => e = .returned (VT (rcpText r)) ∧ Below w.heap.size w w' := by
  obtain ⟨sl, rfl, hrd⟩ := hv
  have hb0 : Below w.heap.size w (w.alloc (.cells #[VT r.name, .int .i64 r.len, .int .u32 (r.print : Int), sl] 36)) := (Below.refl _ w).alloc (Nat.le_refl _) _
  have hbx : Box4 w.heap.size (VT r.name) (.int .i64 r.len) (.int .u32 (r.print : Int)) sl (w.alloc (.cells #[VT r.name, .int .i64 r.len, .int .u32 (r.print : Int), sl] 36)) := Box4.mk' _ _ _ _ _ _
  have HRD := Lib.hid (hrd.keep hb0 (Nat.le_refl _))
  obtain ⟨A, c, rfl, hcap, _⟩ := hrd.form
  have HB0 := Lib.hid hb0
  have HBX := Lib.hid hbx
  have HB := Lib.hid hb
  obtain ⟨q1, q2, q3, q4, q5⟩ := rcpFault_name hf
  have hnz : (bs r.name).size ≤ 12 := by rw [bs_size]; exact isName_le q1
  have hiz : (bs (itoa r.len)).size ≤ 4 := by rw [bs_size]; exact itoa_le4 q2 q3
  have hhz : (bs (hex8 r.print)).size = 8 := by rw [bs_size]; exact hexL_length _ _
  have h32 : (⟨#[32]⟩ : ByteArray).size = 1 := rfl
  have hz1 : (bs r.name ++ ⟨#[32]⟩).size ≤ 13 := by rw [ByteArray.size_append]; omega
  have hz2 : (bs r.name ++ ⟨#[32]⟩ ++ bs (itoa r.len)).size ≤ 17 := by rw [ByteArray.size_append]; omega
  have hz3 : (bs r.name ++ ⟨#[32]⟩ ++ bs (itoa r.len) ++ ⟨#[32]⟩).size ≤ 18 := by rw [ByteArray.size_append]; omega
  have hlen := hb.p
  have HPZ := Lib.hid (rcpPre_le hf)
  have HP0 := Lib.hid (rcpPre_zero r)
  have HPE : Hid (rcpPre r r.ids.length = rcpText r) := Lib.hid (by unfold rcpPre rcpText; rw [List.take_of_length_le (Nat.le_refl _)])
  have HL := Lib.hid (idsFault_lens _ _ 0 0 (show (idsFault r.len 0 0 r.ids).1 = 0 by rw [q5]))
  generalize hw0 : w.alloc (.cells #[VT r.name, .int .i64 r.len, .int .u32 (r.print : Int), .slice A r.ids.length c] 36) = w0 at HRD HB0 HBX
  have HW0 := Lib.hid hw0
  clear hrd hb0 hbx hb hf q1 q5 hw0
  go_enter Tryz.func32, Tryz.ntmps32
  go_wp2
  rw [HW0.out]
  have hS0 : Below w0.heap.size w0 w0.drew := (Below.refl _ _).drew
  refine region_S (fun w' => Below w0.heap.size w0 w') 11 (by kernel_rfl) (by kernel_rfl) ?_
  refine take_S 0 rfl (by kernel_rfl) (by kernel_rfl) hS0 (fun w' hS => by go_simp; rfl) ?_
  refine take_S 1 rfl (by kernel_rfl) (by kernel_rfl) hS0 (fun w' hS => by have A0 := (HBX.out.below hS HBX.out.lt).c0; go_simp; rfl) ?_
  refine take_S 2 rfl (by kernel_rfl) (by kernel_rfl) hS0 (fun w' hS => by go_simp; first | rfl | rw [if_neg (by omega)]) ?_
  refine take_S 3 rfl (by kernel_rfl) (by kernel_rfl) hS0 (fun w' hS => by go_simp; rfl) ?_
  refine take_S 4 rfl (by kernel_rfl) (by kernel_rfl) hS0 (fun w' hS => by have A1 := (HBX.out.below hS HBX.out.lt).c1; go_simp; rfl) ?_
  refine take_S 8 rfl (by kernel_rfl) (by kernel_rfl) hS0 (fun w' hS => by go_simp; rfl) ?_
  refine take_S 9 rfl (by kernel_rfl) (by kernel_rfl) hS0 (fun w' hS => by have A2 := (HBX.out.below hS HBX.out.lt).c2; go_simp; rfl) ?_
  refine carry_S 5 rfl (by kernel_rfl) (by decide) (by kernel_rfl) (fun K hK => ?_)
  go_simp
  refine (RDecimal_any r.len (by omega) (by omega) _).mono ?_
  rintro e w2 ⟨rfl, hb2⟩
  have hS2 : Below w0.heap.size w0 w2 := hS0.trans hb2
  refine hK _ _ hS2 ?_
  clear hK K
  try simp only [Act.put, List.getElem_toArray, List.getElem_cons_succ, List.getElem_cons_zero, List.setIfInBounds_toArray, List.set_cons_zero, List.set_cons_succ]
  refine take_S 6 rfl (by kernel_rfl) (by kernel_rfl) hS2 (fun w' hS => by go_simp; first | rfl | rw [if_neg (by omega)]) ?_
  refine take_S 7 rfl (by kernel_rfl) (by kernel_rfl) hS2 (fun w' hS => by go_simp; first | rfl | rw [if_neg (by omega)]) ?_
  refine carry_S 10 rfl (by kernel_rfl) (by decide) (by kernel_rfl) (fun K hK => ?_)
  go_simp
  refine (RHexOf_any r.print hlen _).mono ?_
  rintro e w3 ⟨rfl, hb3⟩
  have hS3 : Below w0.heap.size w0 w3 := hS2.trans (hb3.mono hS2.size)
  refine hK _ _ hS3 (forced_S (by kernel_rfl) ?_)
  clear hK K
  try simp only [Act.put, List.getElem_toArray, List.getElem_cons_succ, List.getElem_cons_zero, List.setIfInBounds_toArray, List.set_cons_zero, List.set_cons_succ]
  simp only [List.drop_succ_cons, List.drop_zero]
  have HS3 := Lib.hid hS3
  clear hS0 hS2 hS3 hb2 hb3
  go_wp2
  rw [← HP0.out]
  go_loopg [3, 4] r.ids.length (fun gh vs vi wr => ∃ k : Nat, vi = .int .i64 k ∧ vs = .string (bs (rcpPre r k)) ∧ k ≤ r.ids.length ∧ gh = r.ids.length - k ∧ Below w0.heap.size w0 wr)
  case atStart => exact ⟨0, rfl, rfl, Nat.zero_le _, rfl, HS3.out⟩
  case round =>
    obtain ⟨k, rfl, rfl, hk, hgm, hB⟩ := hrel
    have er3 := (HBX.out.below hB HBX.out.lt).c3
    by_cases hkl : k < r.ids.length
    · obtain ⟨A', c', hv', _, hcells⟩ := HRD.out.form
      injection hv' with e1 e2 e3
      subst e1
      obtain ⟨g, o, rfl, hg, hx⟩ := hcells (by omega)
      obtain ⟨x0, x1⟩ := hx k hkl
      have hg1 : g < w0.heap.size := Nat.lt_of_lt_of_le hg HB0.out.size
      have y0 := (hB.cell (p := ⟨g, o + k * 2, none⟩) hg1).trans x0
      have y1 := (hB.cell (p := ⟨g, o + k * 2 + 1, none⟩) hg1).trans x1
      have b1 : (0 : Int) ≤ (k : Int) := by omega
      have b2 : (k : Int) < (r.ids.length : Int) := by omega
      obtain ⟨i1, i2, i3⟩ := HB.out.i r.ids[k] (List.getElem_mem hkl)
      obtain ⟨j1, j2⟩ := HL.out r.ids[k] (List.getElem_mem hkl)
      have hpz : (bs (rcpPre r k)).size ≤ 4000 := by rw [bs_size]; exact HPZ.out k
      have hpz2 : (bs (rcpPre r k) ++ ⟨#[32]⟩).size ≤ 4001 := by rw [ByteArray.size_append]; omega
      have htz : (bs (idText r.ids[k].1 r.ids[k].2)).size ≤ 11 := by rw [bs_size]; exact idText_le (by omega) j2
      have HQ := Lib.hid (rcpPre_next hkl)
      clear hx x0 x1 hcells e2 e3
      go_wp2_with fail
      refine (RIDText_any r.ids[k].1 r.ids[k].2 i1 i2 i3 _).mono ?_
      rintro e w5 ⟨rfl, hb5⟩
      have HB5 := Lib.hid (hB.trans (hb5.mono hB.size))
      clear hb5
      go_wp2
      go_roundg (r.ids.length - (k + 1))
      case measure => omega
      case rel => exact ⟨k + 1, by go_num, by rw [HQ.out], hkl, rfl, HB5.out⟩
    · obtain rfl : k = r.ids.length := by omega
      go_wp2
      go_ret
      exact ⟨by rw [HPE.out]; rfl, HB0.out.trans (hB.mono HB0.out.size)⟩
end Go.Proofs.YtbokckjlgjnnjaaGreatDoor
/- Walk of the reference's JoinOf. No conditions but bounds. -/
namespace Go.Proofs.YtbokckjlgjnnjaaGreatDoor
open Go.RowKit Go.Lib

def JoinRPost (r : Rcp) (ls : List Bytes) (w : World) (e : Ending) (w' : World) : Prop := e = .returned (.tuple #[VT (joinRes r ls).1, fltV (joinRes r ls).2]) ∧ Below w.heap.size w w'
theorem rcpFault_pos {r : Rcp} (h : (rcpFault r).1 ≠ 0) : 0 < (rcpFault r).1 := by
  rcases rcpFault_code r with h1 | h1 | h1 | h1 | h1 | h1 <;> omega
theorem flat_snoc {ls : List Bytes} {k : Nat} (h : k < ls.length) : bs ((ls.take (k + 1)).flatten) = bs ((ls.take k).flatten) ++ bs ls[k] := by
  rw [cat_bs, List.take_succ_eq_append_getElem h, List.flatten_append]
  simp
theorem flat_take_le (ls : List Bytes) (k : Nat) (hk : k ≤ ls.length) (n : Nat) (h : ∀ p ∈ ls, p.length ≤ n) : ((ls.take k).flatten).length ≤ n * k := by
  induction k with
  | zero => simp
  | succ k ih =>
    rw [List.take_succ_eq_append_getElem hk, List.flatten_append, List.length_append]
    have h1 := ih (by omega)
    have h2 := h ls[k] (List.getElem_mem hk)
    simp only [List.flatten_cons, List.flatten_nil, List.append_nil]
    rw [Nat.mul_succ]; omega
set_option maxRecDepth 100000 in
set_option maxHeartbeats 4000000 in
theorem RJoinOf_any (v lv : Value) (r : Rcp) (hb : RcpB r) (ls : List Bytes) (hls : ls.length ≤ 1000000) (hlz : ∀ p ∈ ls, p.length ≤ 1000000) (w : World) (hv : RcpV w w.heap.size v r) (hl : Rd w w.heap.size lv (ls.map VT)) :
    Calls Tryz.prog 40 #[v, lv] w (JoinRPost r ls w) := by
  obtain ⟨sl, rfl, hrd⟩ := hv
  obtain ⟨A, c, rfl, hcap, _⟩ := hrd.form
  have hb0 : Below w.heap.size w ((w.alloc (.cells #[VT r.name, .int .i64 r.len, .int .u32 (r.print : Int), .slice A r.ids.length c] 36)).alloc (.cells #[.int .i64 0, .int .i64 0] 49)) := ((Below.refl _ w).alloc (Nat.le_refl _) _).alloc (by simp) _
  have hbx : Box4 w.heap.size (VT r.name) (.int .i64 r.len) (.int .u32 (r.print : Int)) (.slice A r.ids.length c) ((w.alloc (.cells #[VT r.name, .int .i64 r.len, .int .u32 (r.print : Int), .slice A r.ids.length c] 36)).alloc (.cells #[.int .i64 0, .int .i64 0] 49)) := (Box4.mk' w _ _ _ _ _).below ((Below.refl (w.alloc _).heap.size (w.alloc _)).alloc (Nat.le_refl _) _) (by simp)
  have hbr : Box2 (w.heap.size + 1) (.int .i64 0) (.int .i64 0) ((w.alloc (.cells #[VT r.name, .int .i64 r.len, .int .u32 (r.print : Int), .slice A r.ids.length c] 36)).alloc (.cells #[.int .i64 0, .int .i64 0] 49)) := by
    have := Box2.mk' (w.alloc (.cells #[VT r.name, .int .i64 r.len, .int .u32 (r.print : Int), .slice A r.ids.length c] 36)) (.int .i64 0) (.int .i64 0) 49
    simpa using this
  have FL := Lib.hid (RRecipeFault_any (.agg #[VT r.name, .int .i64 r.len, .int .u32 (r.print : Int), .slice A r.ids.length c]) r hb ((w.alloc (.cells #[VT r.name, .int .i64 r.len, .int .u32 (r.print : Int), .slice A r.ids.length c] 36)).alloc (.cells #[.int .i64 0, .int .i64 0] 49)) ⟨_, rfl, (hrd.keep hb0 (Nat.le_refl _)).more hb0.size⟩)
  have HRD := Lib.hid hrd
  have HLD := Lib.hid hl
  obtain ⟨A2, c2, rfl, hcap2, _⟩ := hl
  rw [List.length_map] at hcap2 ⊢
  have step : ∀ (w1 : World) (f : Int × Int), Below ((w.alloc (.cells #[VT r.name, .int .i64 r.len, .int .u32 (r.print : Int), .slice A r.ids.length c] 36)).alloc (.cells #[.int .i64 0, .int .i64 0] 49)).heap.size ((w.alloc (.cells #[VT r.name, .int .i64 r.len, .int .u32 (r.print : Int), .slice A r.ids.length c] 36)).alloc (.cells #[.int .i64 0, .int .i64 0] 49)) w1 →
      Below w.heap.size w (w1.alloc (.cells #[.int .i64 f.1, .int .i64 f.2] 49)) ∧ Box2 w1.heap.size (.int .i64 f.1) (.int .i64 f.2) (w1.alloc (.cells #[.int .i64 f.1, .int .i64 f.2] 49)) ∧
      Box4 w.heap.size (VT r.name) (.int .i64 r.len) (.int .u32 (r.print : Int)) (.slice A r.ids.length c) (w1.alloc (.cells #[.int .i64 f.1, .int .i64 f.2] 49)) ∧ Box2 (w.heap.size + 1) (.int .i64 0) (.int .i64 0) (w1.alloc (.cells #[.int .i64 f.1, .int .i64 f.2] 49)) := fun w1 f h1 => by
    have h2 := h1.alloc h1.size (.cells #[.int .i64 f.1, .int .i64 f.2] 49)
    exact ⟨hb0.trans (h2.mono hb0.size), Box2.mk' _ _ _ _, hbx.below h2 hbx.lt, hbr.below h2 hbr.lt⟩
  have STEP := Lib.hid step
  have hc3 := hbx.c3
  have hc0 := hbx.c0
  have hc1 := hbx.c1
  have hc2 := hbx.c2
  have HB := Lib.hid hb
  have HLZ := Lib.hid hlz
  have HSZ0 : Hid (((w.alloc (.cells #[VT r.name, .int .i64 r.len, .int .u32 (r.print : Int), .slice A r.ids.length c] 36)).alloc (.cells #[.int .i64 0, .int .i64 0] 49)).heap.size = w.heap.size + 2) := Lib.hid (by simp)
  clear hrd hb0 hbx hbr hb hlz step
  by_cases h0 : (rcpFault r).1 = 0
  · obtain ⟨q1, q2, q3, q4, q5⟩ := rcpFault_name h0
    have H6 := Lib.hid (idsFault_lens _ _ 0 0 (show (idsFault r.len 0 0 r.ids).1 = 0 by rw [q5]))
    have HF := Lib.hid (rcpFault_two h0)
    clear q1 q5
    by_cases hln : ls.length = r.ids.length
    · have hlni : ((ls.length : Int) != (r.ids.length : Int)) = false := by rw [hln]; simp
      have HJ0 : Hid (joinRes r ls = joinEnd r ls (joinMis 0 ls r.ids)) := Lib.hid (by unfold joinRes; rw [if_neg (by rw [h0]; simp), if_neg (by rw [hln]; simp)])
      have HLN := Lib.hid hln
      have hl250 : ls.length ≤ 250 := by omega
      clear h0 hln
      go_enter Tryz.func40, Tryz.ntmps40
      go_wp2_with fail
      refine FL.out.mono ?_
      rintro e w1 ⟨rfl, hb1⟩
      rw [HF.out]
      obtain ⟨hb2, hbf, hbx2, hbr2⟩ := STEP.out w1 (0, -1) hb1
      have HB2 := Lib.hid hb2
      have HBF := Lib.hid hbf
      have HBX2 := Lib.hid hbx2
      have HBR2 := Lib.hid hbr2
      obtain ⟨c0, c1, c2, c3, _⟩ := hbx2
      obtain ⟨k0, k1, _, _⟩ := hbf
      clear hb1 hb2
      have HRDk := Lib.hid (HRD.out.keep HB2.out (Nat.le_refl _))
      have HLDk := Lib.hid (HLD.out.below HB2.out)
      go_wp2
      generalize w1.alloc (.cells #[.int .i64 0, .int .i64 (-1)] 49) = w2 at *
      go_loopg [7, 8] ls.length (fun gh vs vi wr => ∃ k : Nat, vi = .int .i64 k ∧ vs = .string (bs (ls.take k).flatten) ∧ k ≤ ls.length ∧ gh = ls.length - k ∧ Hid (joinMis 0 ls r.ids = joinMis k (ls.drop k) (r.ids.drop k)) ∧ Below w2.heap.size w2 wr)
      case atStart => exact ⟨0, rfl, rfl, Nat.zero_le _, rfl, Lib.hid rfl, Below.refl _ _⟩
      case round =>
        obtain ⟨k, rfl, rfl, hk, hgm, hM, hB⟩ := hrel
        have HBXr := Lib.hid (HBX2.out.below hB HBX2.out.lt)
        have HBRr := Lib.hid (HBR2.out.below hB HBR2.out.lt)
        have HBFr := Lib.hid (HBF.out.below hB HBF.out.lt)
        have HB9 := Lib.hid (HB2.out.trans (hB.mono HB2.out.size))
        obtain ⟨A', c', hv', _, hcells⟩ := HRDk.out.form
        injection hv' with e1 e2 e3
        obtain ⟨A3, c3', hv3, _, hc3'⟩ := HLDk.out
        injection hv3 with e4 e5 e6
        subst e1
        subst e4
        have hfz : (bs (ls.take k).flatten).size ≤ 250000000 := by rw [bs_size]; have := flat_take_le ls k hk 1000000 HLZ.out; omega
        by_cases hkl : k < ls.length
        · have hkr : k < r.ids.length := by rw [← HLN.out]; exact hkl
          obtain ⟨g, o, rfl, hg, hx⟩ := hcells (by omega)
          obtain ⟨g2, o2, rfl, hg2, hx2⟩ := hc3' (map_ne hkl)
          obtain ⟨x0, x1⟩ := hx k hkr
          have z0 : w2.cell? ⟨g2, o2 + k, none⟩ = some (.string (bs ls[k])) := hx2 k _ (by simp [hkl])
          have hg1 : g < w2.heap.size := Nat.lt_of_lt_of_le hg HB2.out.size
          have hg21 : g2 < w2.heap.size := Nat.lt_of_lt_of_le hg2 HB2.out.size
          have Y0 := Lib.hid ((hB.cell (p := ⟨g, o + k * 2, none⟩) hg1).trans x0)
          have Y1 := Lib.hid ((hB.cell (p := ⟨g, o + k * 2 + 1, none⟩) hg1).trans x1)
          have Z := Lib.hid ((hB.cell (p := ⟨g2, o2 + k, none⟩) hg21).trans z0)
          have hgr : g < wr.heap.size := Nat.lt_of_lt_of_le hg1 hB.size
          have hg2r : g2 < wr.heap.size := Nat.lt_of_lt_of_le hg21 hB.size
          have b1 : (0 : Int) ≤ (k : Int) := by omega
          have b2 : (k : Int) < (ls.length : Int) := by omega
          have b3 : (k : Int) < (r.ids.length : Int) := by omega
          have hpz : (bs ls[k]).size ≤ 1000000 := by rw [bs_size]; exact HLZ.out ls[k] (List.getElem_mem hkl)
          have hpm : (bs ls[k]).size ≤ maxLen := by unfold maxLen; omega
          have HBT := Lib.hid (bs_toList ls[k])
          have HBZ := Lib.hid (bs_size ls[k])
          have HFS := Lib.hid (flat_snoc hkl)
          clear hx hx2 x0 x1 z0 hcells hc3' e2 e3 e5 e6
          go_wp2
          have hS0 : Below wr.heap.size wr wr.drew := (Below.refl _ _).drew
          refine region_S (fun w' => Below wr.heap.size wr w') 10 (by kernel_rfl) (by kernel_rfl) ?_
          refine take_S 0 rfl (by kernel_rfl) (by kernel_rfl) hS0 (fun w' hS => by go_simp; rfl) ?_
          refine take_S 1 rfl (by kernel_rfl) (by kernel_rfl) hS0 (fun w' hS => by go_simp; rfl) ?_
          refine take_S 2 rfl (by kernel_rfl) (by kernel_rfl) hS0 (fun w' hS => by go_simp; rfl) ?_
          refine take_S 3 rfl (by kernel_rfl) (by kernel_rfl) hS0 (fun w' hS => by have Z0 := (hS.cell (p := ⟨g2, o2 + k, none⟩) hg2r).trans Z.out; go_simp; rfl) ?_
          refine take_S 5 rfl (by kernel_rfl) (by kernel_rfl) hS0 (fun w' hS => by go_simp; rfl) ?_
          refine take_S 6 rfl (by kernel_rfl) (by kernel_rfl) hS0 (fun w' hS => by have A3 := (HBXr.out.below hS HBXr.out.lt).c3; go_simp; rfl) ?_
          refine take_S 7 rfl (by kernel_rfl) (by kernel_rfl) hS0 (fun w' hS => by go_simp; rfl) ?_
          refine take_S 8 rfl (by kernel_rfl) (by kernel_rfl) hS0 (fun w' hS => by go_simp; rfl) ?_
          refine take_S 9 rfl (by kernel_rfl) (by kernel_rfl) hS0 (fun w' hS => by have B0 := (hS.cell (p := ⟨g, o + k * 2, none⟩) hgr).trans Y0.out; have B1 := (hS.cell (p := ⟨g, o + k * 2 + 1, none⟩) hgr).trans Y1.out; go_simp; rfl) ?_
          refine carry_S 4 rfl (by kernel_rfl) (by decide) (by kernel_rfl) (fun K hK => ?_)
          go_simp
          refine (IDOf_any (bs ls[k]) _ hpm).mono ?_
          rintro e w4 ⟨rfl, hb4⟩
          have hS4 : Below wr.heap.size wr w4 := hS0.trans hb4
          rw [HBT.out, HBZ.out]
          refine hK _ _ hS4 (forced_S (by kernel_rfl) ?_)
          clear hK K
          try simp only [Act.put, List.getElem_toArray, List.getElem_cons_succ, List.getElem_cons_zero, List.setIfInBounds_toArray, List.set_cons_zero, List.set_cons_succ]
          simp only [List.drop_succ_cons, List.drop_zero]
          have HB4 := Lib.hid (hB.trans (hS4.mono hB.size))
          have HB49 := Lib.hid (HB2.out.trans (HB4.out.mono HB2.out.size))
          have z4 := (hS4.cell (p := ⟨g2, o2 + k, none⟩) hg2r).trans Z.out
          have HBR4 := Lib.hid (HBRr.out.below hS4 HBRr.out.lt)
          by_cases hid : idOf ls[k] = r.ids[k]
          · obtain ⟨t1, t2⟩ := id_eqs hid
            have HN := Lib.hid (hM.out.trans (joinMis_next hkl hkr hid))
            clear hid hM
            go_wp2
            go_roundg (ls.length - (k + 1))
            case measure => omega
            case rel => exact ⟨k + 1, by go_num, by rw [HFS.out], hkl, rfl, HN, HB4.out⟩
          · have HJ : Hid (joinRes r ls = ([], 9, (k : Int))) := Lib.hid (by rw [HJ0.out, hM.out, joinMis_hit hkl hkr hid]; rfl)
            have hid' := id_ne hid
            clear hid hM
            have hrr := HBR4.out
            have HRR := Lib.hid hrr
            obtain ⟨r0, r1, f0, f1⟩ := hrr
            obtain ⟨d0, d1, d2⟩ := HRR.out.rd (.int .i64 9) (.int .i64 (k : Int))
            have HB9 := Lib.hid (below_set2 (HB49.out) (Nat.le_succ _) (.int .i64 9) (.int .i64 (k : Int)))
            rcases hid' with t1 | ⟨t1, t2⟩
            · go_wp2
              refine bodyPost_ret (v := .tuple #[.string ⟨#[]⟩, fltV (9, (k : Int))]) (by simp [results, Tryz.results40, go_sem, d0, d1, d2]) rfl ?_
              exact ⟨by rw [HJ.out]; try rfl, HB9.out⟩
            · go_wp2
              refine bodyPost_ret (v := .tuple #[.string ⟨#[]⟩, fltV (9, (k : Int))]) (by simp [results, Tryz.results40, go_sem, d0, d1, d2]) rfl ?_
              exact ⟨by rw [HJ.out]; try rfl, HB9.out⟩
        · obtain rfl : k = ls.length := by omega
          have hM0 : joinMis 0 ls r.ids = none := hM.out.trans (joinMis_nil rfl)
          have HE : Hid (joinRes r ls = if prOf ls.flatten = r.print then (ls.flatten, 0, -1) else ([], 9, -1)) := Lib.hid (by rw [HJ0.out, hM0]; rfl)
          have HBT := Lib.hid (bs_toList ls.flatten)
          rw [List.take_length] at hfz
          simp only [List.take_length]
          have hfm : (bs ls.flatten).size ≤ maxLen := by unfold maxLen; omega
          clear hM0 hM hcells hc3' e2 e3 e5 e6
          go_wp2
          have hS0 : Below wr.heap.size wr wr.drew := (Below.refl _ _).drew
          refine region_S (fun w' => Below wr.heap.size wr w') 4 (by kernel_rfl) (by kernel_rfl) ?_
          refine take_S 0 rfl (by kernel_rfl) (by kernel_rfl) hS0 (fun w' hS => by go_simp; rfl) ?_
          refine take_S 2 rfl (by kernel_rfl) (by kernel_rfl) hS0 (fun w' hS => by go_simp; rfl) ?_
          refine take_S 3 rfl (by kernel_rfl) (by kernel_rfl) hS0 (fun w' hS => by have A2 := (HBXr.out.below hS HBXr.out.lt).c2; go_simp; rfl) ?_
          refine carry_S 1 rfl (by kernel_rfl) (by decide) (by kernel_rfl) (fun K hK => ?_)
          go_simp
          refine (PrintOf_any (bs ls.flatten) _ hfm).mono ?_
          rintro e w6 ⟨rfl, rfl⟩
          rw [HBT.out]
          refine hK _ _ hS0 (forced_S (by kernel_rfl) ?_)
          clear hK K
          try simp only [Act.put, List.getElem_toArray, List.getElem_cons_succ, List.getElem_cons_zero, List.setIfInBounds_toArray, List.set_cons_zero, List.set_cons_succ]
          simp only [List.drop_succ_cons, List.drop_zero]
          by_cases hp : prOf ls.flatten = r.print
          · have hpi : (((prOf ls.flatten : Nat) : Int) != (r.print : Int)) = false := by rw [hp]; simp
            have HJ : Hid (joinRes r ls = (ls.flatten, 0, -1)) := Lib.hid (HE.out.trans (if_pos hp))
            obtain ⟨k0, k1, _, _⟩ := HBFr.out
            clear hp
            have hrr := HBRr.out
            have HRR := Lib.hid hrr
            obtain ⟨r0, r1, f0, f1⟩ := hrr
            obtain ⟨d0, d1, d2⟩ := HRR.out.rd (.int .i64 0) (.int .i64 (-1))
            have HB9 := Lib.hid (below_set2 (HB9.out) (Nat.le_succ _) (.int .i64 0) (.int .i64 (-1)))
            have HB9 := Lib.hid HB9.out.drew.drew
            go_wp2
            go_region
            go_wp2
            refine bodyPost_ret (v := .tuple #[.string (bs ls.flatten), fltV (0, (-1))]) (by simp [results, Tryz.results40, go_sem, d0, d1, d2]) rfl ?_
            exact ⟨by rw [HJ.out]; try rfl, HB9.out⟩
          · have hpi : (((prOf ls.flatten : Nat) : Int) != (r.print : Int)) = true := by simp; omega
            have HJ : Hid (joinRes r ls = ([], 9, -1)) := Lib.hid (HE.out.trans (if_neg hp))
            clear hp
            go_wp2_with fail
            refine (RBareF_any 9 _).mono ?_
            rintro e w7 ⟨rfl, hb7⟩
            have hb7' : Below wr.heap.size wr w7 := hS0.trans hb7
            have hrr := HBRr.out.below hb7' HBRr.out.lt
            have HRR := Lib.hid hrr
            obtain ⟨r0, r1, f0, f1⟩ := hrr
            obtain ⟨d0, d1, d2⟩ := HRR.out.rd (.int .i64 9) (.int .i64 (-1))
            have HB9 := Lib.hid (below_set2 (HB9.out.trans (hb7'.mono HB9.out.size)) (Nat.le_succ _) (.int .i64 9) (.int .i64 (-1)))
            clear hb7
            go_wp2
            refine bodyPost_ret (v := .tuple #[.string ⟨#[]⟩, fltV (9, (-1))]) (by simp [results, Tryz.results40, go_sem, d0, d1, d2]) rfl ?_
            exact ⟨by rw [HJ.out]; try rfl, HB9.out⟩
    · have hlni : ((ls.length : Int) != (r.ids.length : Int)) = true := by simp; omega
      have HJ : Hid (joinRes r ls = ([], 3, -1)) := Lib.hid (by unfold joinRes; rw [if_neg (by rw [h0]; simp), if_pos hln])
      clear h0 hln
      go_enter Tryz.func40, Tryz.ntmps40
      go_wp2_with fail
      refine FL.out.mono ?_
      rintro e w1 ⟨rfl, hb1⟩
      rw [HF.out]
      obtain ⟨hb2, hbf, hbx2, hbr2⟩ := STEP.out w1 (0, -1) hb1
      have HB2 := Lib.hid hb2
      have HBF := Lib.hid hbf
      have HBX2 := Lib.hid hbx2
      have HBR2 := Lib.hid hbr2
      obtain ⟨c0, c1, c2, c3, _⟩ := hbx2
      obtain ⟨k0, k1, _, _⟩ := hbf
      clear hb1 hb2
      go_wp2_with fail
      refine (RBareF_any 3 _).mono ?_
      rintro e w3 ⟨rfl, hb3⟩
      have hrr := HBR2.out.below hb3 HBR2.out.lt
      have HRR := Lib.hid hrr
      obtain ⟨r0, r1, f0, f1⟩ := hrr
      obtain ⟨d0, d1, d2⟩ := HRR.out.rd (.int .i64 3) (.int .i64 (-1))
      have HB9 := Lib.hid (below_set2 (HB2.out.trans (hb3.mono HB2.out.size)) (Nat.le_succ _) (.int .i64 3) (.int .i64 (-1)))
      clear hb3
      go_wp2
      refine bodyPost_ret (v := .tuple #[.string ⟨#[]⟩, fltV (3, (-1))]) (by simp [results, Tryz.results40, go_sem, d0, d1, d2]) rfl ?_
      exact ⟨by rw [HJ.out]; try rfl, HB9.out⟩
  · have HJ : Hid (joinRes r ls = ([], rcpFault r)) := Lib.hid (if_pos h0)
    have hp := rcpFault_pos h0
    have hp2 : ¬ (rcpFault r).1 ≤ 0 := by omega
    obtain ⟨fc, ft, hfl⟩ : ∃ fc ft, rcpFault r = (fc, ft) := ⟨_, _, rfl⟩
    rw [hfl] at HJ hp hp2
    have HF := Lib.hid hfl
    clear h0 hfl
    have hp3 : 0 < fc := hp
    clear hp hp2
    go_enter Tryz.func40, Tryz.ntmps40
    go_wp2_with fail
    refine FL.out.mono ?_
    rintro e w1 ⟨rfl, hb1⟩
    rw [HF.out]
    obtain ⟨hb2, hbf, hbx2, hbr2⟩ := STEP.out w1 (fc, ft) hb1
    have HB2 := Lib.hid hb2
    have HBF := Lib.hid hbf
    have HBX2 := Lib.hid hbx2
    have HBR2 := Lib.hid hbr2
    obtain ⟨c0, c1, c2, c3, _⟩ := hbx2
    obtain ⟨k0, k1, _, _⟩ := hbf
    clear hb1 hb2
    have hrr := HBR2.out
    have HRR := Lib.hid hrr
    obtain ⟨r0, r1, f0, f1⟩ := hrr
    obtain ⟨d0, d1, d2⟩ := HRR.out.rd (.int .i64 fc) (.int .i64 ft)
    have HB9 := Lib.hid (below_set2 (HB2.out) (Nat.le_succ _) (.int .i64 fc) (.int .i64 ft))
    have HB9 := Lib.hid HB9.out.drew
    go_wp2
    go_region
    go_wp2
    refine bodyPost_ret (v := .tuple #[.string ⟨#[]⟩, fltV (fc, ft)]) (by simp [results, Tryz.results40, go_sem, d0, d1, d2]) rfl ?_
    exact ⟨by rw [HJ.out]; try rfl, HB9.out⟩
end Go.Proofs.YtbokckjlgjnnjaaGreatDoor
/- Walk of the reference's ReadRecipe. No conditions but bounds. -/
namespace Go.Proofs.YtbokckjlgjnnjaaGreatDoor
open Go.RowKit Go.Lib

theorem res42 {b : Nat} {x y z u p q : Value} {w : World} (h4 : Box4 b x y z u w) (h2 : Box2 (b + 1) p q w) (x' y' z' u' p' q' : Value) :
    ((((((w.setCell ⟨b, 0, none⟩ x').setCell ⟨b, 1, none⟩ y').setCell ⟨b, 2, none⟩ z').setCell ⟨b, 3, none⟩ u').setCell ⟨b + 1, 0, none⟩ p').setCell ⟨b + 1, 1, none⟩ q').cell? ⟨b, 0, none⟩ = some x' ∧
    ((((((w.setCell ⟨b, 0, none⟩ x').setCell ⟨b, 1, none⟩ y').setCell ⟨b, 2, none⟩ z').setCell ⟨b, 3, none⟩ u').setCell ⟨b + 1, 0, none⟩ p').setCell ⟨b + 1, 1, none⟩ q').cell? ⟨b, 1, none⟩ = some y' ∧
    ((((((w.setCell ⟨b, 0, none⟩ x').setCell ⟨b, 1, none⟩ y').setCell ⟨b, 2, none⟩ z').setCell ⟨b, 3, none⟩ u').setCell ⟨b + 1, 0, none⟩ p').setCell ⟨b + 1, 1, none⟩ q').cell? ⟨b, 2, none⟩ = some z' ∧
    ((((((w.setCell ⟨b, 0, none⟩ x').setCell ⟨b, 1, none⟩ y').setCell ⟨b, 2, none⟩ z').setCell ⟨b, 3, none⟩ u').setCell ⟨b + 1, 0, none⟩ p').setCell ⟨b + 1, 1, none⟩ q').cell? ⟨b, 3, none⟩ = some u' ∧
    ((((((w.setCell ⟨b, 0, none⟩ x').setCell ⟨b, 1, none⟩ y').setCell ⟨b, 2, none⟩ z').setCell ⟨b, 3, none⟩ u').setCell ⟨b + 1, 0, none⟩ p').setCell ⟨b + 1, 1, none⟩ q').cell? ⟨b + 1, 0, none⟩ = some p' ∧
    ((((((w.setCell ⟨b, 0, none⟩ x').setCell ⟨b, 1, none⟩ y').setCell ⟨b, 2, none⟩ z').setCell ⟨b, 3, none⟩ u').setCell ⟨b + 1, 0, none⟩ p').setCell ⟨b + 1, 1, none⟩ q').cell? ⟨b + 1, 1, none⟩ = some q' := by
  have far : ∀ (W : World) (j k : Nat) (v : Value), (W.setCell ⟨b + 1, j, none⟩ v).cell? ⟨b, k, none⟩ = W.cell? ⟨b, k, none⟩ := fun W j k v => World.cell?_setCell_other _ _ _ _ (by intro e; injection e with e _; omega)
  have far' : ∀ (W : World) (j k : Nat) (v : Value), (W.setCell ⟨b, j, none⟩ v).cell? ⟨b + 1, k, none⟩ = W.cell? ⟨b + 1, k, none⟩ := fun W j k v => World.cell?_setCell_other _ _ _ _ (by intro e; injection e with e _; omega)
  have q4 := h4.set x' y' z' u'
  refine ⟨by rw [far, far]; exact q4.c0, by rw [far, far]; exact q4.c1, by rw [far, far]; exact q4.c2, by rw [far, far]; exact q4.c3, ?_, ?_⟩
  · rw [cell_setI (by decide)]
    exact World.cell?_setCell_same _ _ _ (by rw [far', far', far', far']; exact h2.c0)
  · exact World.cell?_setCell_same _ _ _ (by rw [cell_setI (by decide), far', far', far', far']; exact h2.c1)
def ReadRPost (t : Bytes) (w : World) (e : Ending) (w' : World) : Prop := ∃ v, e = .returned (.tuple #[v, fltV (readErr t)]) ∧ RcpW w' w.heap.size w'.heap.size v (readVal t) ∧ Below w.heap.size w w'
theorem rread_bad {t : Bytes} {w w' : World} {f : Int × Int} (h : readRcp t = .error f) (hb : Below w.heap.size w w') : ReadRPost t w (.returned (.tuple #[zeroV, fltV f])) w' :=
  ⟨zeroV, by unfold readErr; rw [h], by unfold readVal; rw [h]; exact RcpW.zero _ _ _, hb⟩
theorem rread_ok {t : Bytes} {w w' : World} {r : Rcp} {v : Value} (h : readRcp t = .ok r) (hv : RcpW w' w.heap.size w'.heap.size v r) (hb : Below w.heap.size w w') : ReadRPost t w (.returned (.tuple #[v, fltV (0, -1)])) w' :=
  ⟨v, by unfold readErr; rw [h], by unfold readVal; rw [h]; exact hv, hb⟩
theorem rread_badD {t : Bytes} {w w' : World} {f : Int × Int} (h : readRcp t = .error f) (hb : Below w.heap.size w w') : ReadRPost t w (.returned (.tuple #[zeroV, fltV f])) w'.drew := rread_bad h hb.drew
theorem rread_okD {t : Bytes} {w w' : World} {r : Rcp} {v : Value} (h : readRcp t = .ok r) (hv : RcpW w' w.heap.size w'.heap.size v r) (hb : Below w.heap.size w w') : ReadRPost t w (.returned (.tuple #[v, fltV (0, -1)])) w'.drew :=
  rread_ok h (hv.keep (fun _ _ _ => rfl) (Nat.le_refl _) (Nat.le_refl _)) hb.drew
theorem rcpFault_posR {r : Rcp} (h : (rcpFault r).1 ≠ 0) : 0 < (rcpFault r).1 := by
  rcases rcpFault_code r with h1 | h1 | h1 | h1 | h1 | h1 <;> omega
set_option maxRecDepth 100000 in
set_option maxHeartbeats 4000000 in
theorem RReadRecipe_any (t : ByteArray) (ht : t.size ≤ 1000000000) (w : World) :
    Calls Tryz.prog 38 #[.string t] w (ReadRPost t.data.toList w) := by
  obtain ⟨i0, hi, hzz0, hzz1, hzz2⟩ := info_parts info_idI
  have hz := size_toList t
  have hb0 : Below w.heap.size w ((w.alloc (.cells #[.string ⟨#[]⟩, .int .i64 0, .int .u32 0, .slice none 0 0] 36)).alloc (.cells #[.int .i64 0, .int .i64 0] 49)) := ((Below.refl _ w).alloc (Nat.le_refl _) _).alloc (by simp) _
  have hwr : Box4 w.heap.size (.string ⟨#[]⟩) (.int .i64 0) (.int .u32 0) (.slice none 0 0) ((w.alloc (.cells #[.string ⟨#[]⟩, .int .i64 0, .int .u32 0, .slice none 0 0] 36)).alloc (.cells #[.int .i64 0, .int .i64 0] 49)) := (Box4.mk' w _ _ _ _ _).below ((Below.refl (w.alloc _).heap.size (w.alloc _)).alloc (Nat.le_refl _) _) (by simp)
  have hwf : Box2 (w.heap.size + 1) (.int .i64 0) (.int .i64 0) ((w.alloc (.cells #[.string ⟨#[]⟩, .int .i64 0, .int .u32 0, .slice none 0 0] 36)).alloc (.cells #[.int .i64 0, .int .i64 0] 49)) := by
    have := Box2.mk' (w.alloc (.cells #[.string ⟨#[]⟩, .int .i64 0, .int .u32 0, .slice none 0 0] 36)) (.int .i64 0) (.int .i64 0) 49
    simpa using this
  have HWR := Lib.hid hwr
  have HWF := Lib.hid hwf
  have HB0 := Lib.hid hb0
  clear hb0 hwr hwf
  by_cases hbig : 40000 < t.size
  · have hbi : (t.size : Int) > 40000 := by omega
    have HE : Hid (readRcp t.data.toList = .error (2, -1)) := Lib.hid (if_pos (by omega))
    clear hz hbig
    go_enter Tryz.func38, Tryz.ntmps38
    go_wp2_with fail
    generalize ((w.alloc (.cells #[.string ⟨#[]⟩, .int .i64 0, .int .u32 0, .slice none 0 0] 36)).alloc (.cells #[.int .i64 0, .int .i64 0] 49)) = w0 at *
    go_wp2_with fail
    refine (RBareF_any 2 _).mono ?_
    rintro e w9 ⟨rfl, hb9⟩
    have hr4 := (HWR.out).below hb9 (HWR.out).lt
    have HR4 := Lib.hid hr4
    have hr2 := (HWF.out).below hb9 (HWF.out).lt
    have HR2 := Lib.hid hr2
    obtain ⟨c0, c1, c2, c3, hf⟩ := hr4
    have f0 := hf 0
    have f1 := hf 1
    have f2 := hf 2
    have f3 := hf 3
    obtain ⟨r0, r1, g0, g1⟩ := hr2
    obtain ⟨d0, d1, d2, d3, t0, t1⟩ := res42 HR4.out HR2.out (.string ⟨#[]⟩) (.int .i64 0) (.int .u32 0) (.slice none 0 0) (.int .i64 2) (.int .i64 (-1))
    have HB9 := Lib.hid (below_set2 (below_set4 ((HB0.out).trans (hb9.mono (HB0.out).size)) (Nat.le_refl _) (.string ⟨#[]⟩) (.int .i64 0) (.int .u32 0) (.slice none 0 0)) (Nat.le_succ _) (.int .i64 2) (.int .i64 (-1)))
    clear hb9
    clear hf
    go_wp2
    refine bodyPost_ret (v := .tuple #[zeroV, fltV (2, (-1))]) (by simp [results, Tryz.results38, go_sem, d0, d1, d2, d3, t0, t1, zeroV]) rfl ?_
    exact rread_bad HE.out HB9.out
  · have hbi : ¬ (t.size : Int) > 40000 := by omega
    have HR : Hid (readRcp t.data.toList = readWs (cutAll 32 t.data.toList)) := Lib.hid (if_neg (by omega))
    have HML := Lib.hid (fun p (hp : p ∈ cutAll 32 t.data.toList) => cutAll_mem hp)
    have HLN := Lib.hid (cutAux_length 32 t.data.toList [])
    have HSZ : Hid (t.data.toList.length ≤ 40000) := Lib.hid (by omega)
    clear hz hbig
    go_enter Tryz.func38, Tryz.ntmps38
    go_wp2_with fail
    generalize ((w.alloc (.cells #[.string ⟨#[]⟩, .int .i64 0, .int .u32 0, .slice none 0 0] 36)).alloc (.cells #[.int .i64 0, .int .i64 0] 49)) = w1 at *
    refine (RCut_any t 32 (by omega) w1).mono ?_
    rintro e w2 ⟨v1, rfl, ho1, hb2⟩
    have HB2 := Lib.hid (HB0.out.trans (hb2.mono HB0.out.size))
    have HWR2 := Lib.hid (HWR.out.below hb2 HWR.out.lt)
    have HWF2 := Lib.hid (HWF.out.below hb2 HWF.out.lt)
    have hlen : (cutAll 32 t.data.toList).length ≤ 40001 := by have h1 := HLN.out; have h2 := HSZ.out; unfold cutAll; omega
    obtain ⟨A1, c1, rfl, hn1, hrd⟩ := own_rdI ho1
    have HRD := Lib.hid hrd
    clear ho1 hb2 hrd
    generalize hL : cutAll 32 t.data.toList = L at *
    by_cases h3 : L.length < 3
    · have h3i : (L.length : Int) < 3 := by omega
      have HE : Hid (readRcp t.data.toList = .error (1, -1)) := Lib.hid (by rw [HR.out]; exact readWs_few h3)
      clear h3 hL
      go_wp2_with fail
      refine (RBareF_any 1 _).mono ?_
      rintro e w9 ⟨rfl, hb9⟩
      have hr4 := (HWR2.out).below hb9 (HWR2.out).lt
      have HR4 := Lib.hid hr4
      have hr2 := (HWF2.out).below hb9 (HWF2.out).lt
      have HR2 := Lib.hid hr2
      obtain ⟨c0, c1, c2, c3, hf⟩ := hr4
      have f0 := hf 0
      have f1 := hf 1
      have f2 := hf 2
      have f3 := hf 3
      obtain ⟨r0, r1, g0, g1⟩ := hr2
      obtain ⟨d0, d1, d2, d3, t0, t1⟩ := res42 HR4.out HR2.out (.string ⟨#[]⟩) (.int .i64 0) (.int .u32 0) (.slice none 0 0) (.int .i64 1) (.int .i64 (-1))
      have HB9 := Lib.hid (below_set2 (below_set4 ((HB2.out).trans (hb9.mono (HB2.out).size)) (Nat.le_refl _) (.string ⟨#[]⟩) (.int .i64 0) (.int .u32 0) (.slice none 0 0)) (Nat.le_succ _) (.int .i64 1) (.int .i64 (-1)))
      clear hb9
      clear hf
      go_wp2
      refine bodyPost_ret (v := .tuple #[zeroV, fltV (1, (-1))]) (by simp [results, Tryz.results38, go_sem, d0, d1, d2, d3, t0, t1, zeroV]) rfl ?_
      exact rread_bad HE.out HB9.out
    · have h3i : ¬ (L.length : Int) < 3 := by omega
      obtain ⟨p, q, s, ws, hLe⟩ := three_of h3
      obtain ⟨g, rfl, hg1, hg2, hcell⟩ := HRD.out (by omega)
      have k0 : w2.cell? ⟨g, 0, none⟩ = some (.string (bs p)) := hcell 0 _ (by rw [hLe]; rfl)
      have k1 : w2.cell? ⟨g, 1, none⟩ = some (.string (bs q)) := hcell 1 _ (by rw [hLe]; rfl)
      have k2 : w2.cell? ⟨g, 2, none⟩ = some (.string (bs s)) := hcell 2 _ (by rw [hLe]; rfl)
      have K0 := Lib.hid k0
      have HP1 : Hid (p.length ≤ 40000) := Lib.hid (Nat.le_trans (HML.out p (by rw [hLe]; simp)) HSZ.out)
      have HQ1 : Hid (q.length ≤ 40000) := Lib.hid (Nat.le_trans (HML.out q (by rw [hLe]; simp)) HSZ.out)
      have HS1 : Hid (s.length ≤ 40000) := Lib.hid (Nat.le_trans (HML.out s (by rw [hLe]; simp)) HSZ.out)
      have HWM : Hid (∀ x ∈ ws, x.length ≤ 40000) := Lib.hid (fun x hx => Nat.le_trans (HML.out x (by rw [hLe]; simp [hx])) HSZ.out)
      have HWC : Hid (∀ j k (hj : j < ws.length), j + 3 ≤ k → k ≤ j + 3 → w2.cell? ⟨g, k, none⟩ = some (.string (bs ws[j]))) := Lib.hid (fun j k hj h1 h2 => hcell k _ (by rw [hLe, show k = j + 1 + 1 + 1 by omega]; simp [hj]))
      have hl1 : L.length ≤ ws.length + 3 := by rw [hLe]; simp
      have hl2 : ws.length + 3 ≤ L.length := by rw [hLe]; simp
      have hqz : (bs q).size ≤ 40000 := by rw [bs_size]; exact HQ1.out
      have hsz3 : (bs s).size ≤ 40000 := by rw [bs_size]; exact HS1.out
      have HQT := Lib.hid (bs_toList q)
      have HST := Lib.hid (bs_toList s)
      have HRW : Hid (readRcp t.data.toList = readWs (p :: q :: s :: ws)) := Lib.hid (by rw [HR.out, hLe])
      have b01 : (1 : Int) < (L.length : Int) := by omega
      have b02 : (2 : Int) < (L.length : Int) := by omega
      have b00 : (0 : Int) < (L.length : Int) := by omega
      clear h3 HLN HML hL hLe HR HRD hcell k0
      go_wp2_with fail
      refine (RNumberOf_any (bs q) 6 (by decide) w2).mono ?_
      rintro e w3 ⟨rfl, rfl⟩
      rw [HQT.out]
      go_wp2_with fail
      refine (RUnhex_any (bs s) (by omega) w2).mono ?_
      rintro e w3 ⟨rfl, rfl⟩
      rw [HST.out]
      cases hn : numR q 6 with
      | none =>
        rw [show numZ q 6 = -1 by unfold numZ; rw [hn]]
        have HE : Hid (readRcp t.data.toList = .error (1, -1)) := Lib.hid (by rw [HRW.out]; exact readWs_no (fun h => by rw [← numR_eq q 6 (by decide), hn] at h; simp at h))
        clear hn
        cases hu : unhexOf s with
        | none =>
          clear hu
          rw [show hexRes none = .tuple #[.int .u32 0, .bool false] from rfl]
          go_wp2_with fail
          refine (RBareF_any 1 _).mono ?_
          rintro e w9 ⟨rfl, hb9⟩
          have hr4 := (HWR2.out).below hb9 (HWR2.out).lt
          have HR4 := Lib.hid hr4
          have hr2 := (HWF2.out).below hb9 (HWF2.out).lt
          have HR2 := Lib.hid hr2
          obtain ⟨c0, c1, c2, c3, hf⟩ := hr4
          have f0 := hf 0
          have f1 := hf 1
          have f2 := hf 2
          have f3 := hf 3
          obtain ⟨r0, r1, g0, g1⟩ := hr2
          obtain ⟨d0, d1, d2, d3, t0, t1⟩ := res42 HR4.out HR2.out (.string ⟨#[]⟩) (.int .i64 0) (.int .u32 0) (.slice none 0 0) (.int .i64 1) (.int .i64 (-1))
          have HB9 := Lib.hid (below_set2 (below_set4 ((HB2.out).trans (hb9.mono (HB2.out).size)) (Nat.le_refl _) (.string ⟨#[]⟩) (.int .i64 0) (.int .u32 0) (.slice none 0 0)) (Nat.le_succ _) (.int .i64 1) (.int .i64 (-1)))
          clear hb9
          clear hf
          go_wp2
          refine bodyPost_ret (v := .tuple #[zeroV, fltV (1, (-1))]) (by simp [results, Tryz.results38, go_sem, d0, d1, d2, d3, t0, t1, zeroV]) rfl ?_
          exact rread_bad HE.out HB9.out
        | some u =>
          clear hu
          rw [show hexRes (some u) = .tuple #[.int .u32 (u : Int), .bool true] from rfl]
          go_wp2_with fail
          refine (RBareF_any 1 _).mono ?_
          rintro e w9 ⟨rfl, hb9⟩
          have hr4 := (HWR2.out).below hb9 (HWR2.out).lt
          have HR4 := Lib.hid hr4
          have hr2 := (HWF2.out).below hb9 (HWF2.out).lt
          have HR2 := Lib.hid hr2
          obtain ⟨c0, c1, c2, c3, hf⟩ := hr4
          have f0 := hf 0
          have f1 := hf 1
          have f2 := hf 2
          have f3 := hf 3
          obtain ⟨r0, r1, g0, g1⟩ := hr2
          obtain ⟨d0, d1, d2, d3, t0, t1⟩ := res42 HR4.out HR2.out (.string ⟨#[]⟩) (.int .i64 0) (.int .u32 0) (.slice none 0 0) (.int .i64 1) (.int .i64 (-1))
          have HB9 := Lib.hid (below_set2 (below_set4 ((HB2.out).trans (hb9.mono (HB2.out).size)) (Nat.le_refl _) (.string ⟨#[]⟩) (.int .i64 0) (.int .u32 0) (.slice none 0 0)) (Nat.le_succ _) (.int .i64 1) (.int .i64 (-1)))
          clear hb9
          clear hf
          go_wp2
          refine bodyPost_ret (v := .tuple #[zeroV, fltV (1, (-1))]) (by simp [results, Tryz.results38, go_sem, d0, d1, d2, d3, t0, t1, zeroV]) rfl ?_
          exact rread_bad HE.out HB9.out
      | some n =>
        rw [show numZ q 6 = (n : Int) by unfold numZ; rw [hn]]
        have hn0 : ¬ (n : Int) < 0 := by omega
        cases hu : unhexOf s with
        | none =>
          have HE : Hid (readRcp t.data.toList = .error (1, -1)) := Lib.hid (by rw [HRW.out]; exact readWs_no (fun h => by rw [hu] at h; simp at h))
          clear hn hu
          rw [show hexRes none = .tuple #[.int .u32 0, .bool false] from rfl]
          go_wp2_with fail
          refine (RBareF_any 1 _).mono ?_
          rintro e w9 ⟨rfl, hb9⟩
          have hr4 := (HWR2.out).below hb9 (HWR2.out).lt
          have HR4 := Lib.hid hr4
          have hr2 := (HWF2.out).below hb9 (HWF2.out).lt
          have HR2 := Lib.hid hr2
          obtain ⟨c0, c1, c2, c3, hf⟩ := hr4
          have f0 := hf 0
          have f1 := hf 1
          have f2 := hf 2
          have f3 := hf 3
          obtain ⟨r0, r1, g0, g1⟩ := hr2
          obtain ⟨d0, d1, d2, d3, t0, t1⟩ := res42 HR4.out HR2.out (.string ⟨#[]⟩) (.int .i64 0) (.int .u32 0) (.slice none 0 0) (.int .i64 1) (.int .i64 (-1))
          have HB9 := Lib.hid (below_set2 (below_set4 ((HB2.out).trans (hb9.mono (HB2.out).size)) (Nat.le_refl _) (.string ⟨#[]⟩) (.int .i64 0) (.int .u32 0) (.slice none 0 0)) (Nat.le_succ _) (.int .i64 1) (.int .i64 (-1)))
          clear hb9
          clear hf
          go_wp2
          refine bodyPost_ret (v := .tuple #[zeroV, fltV (1, (-1))]) (by simp [results, Tryz.results38, go_sem, d0, d1, d2, d3, t0, t1, zeroV]) rfl ?_
          exact rread_bad HE.out HB9.out
        | some u =>
          have hn2 : numOf q 6 = some n := by rw [← numR_eq q 6 (by decide)]; exact hn
          have HRE : Hid (readRcp t.data.toList = readEnd p n u (readIds ws)) := Lib.hid (by rw [HRW.out]; exact readWs_ids hn2 hu)
          have hun := (unhexOf_some hu).1
          have hnb := (atoiO_bounds (numOf_some hn2).1)
          rw [show hexRes (some u) = .tuple #[.int .u32 (u : Int), .bool true] from rfl]
          clear hn hn2 hu
          go_wp2
          go_loopg [8, 9] ws.length (fun gh vs vi wr => ∃ (k j : Nat) (done : IdL), vi = .int .i64 k ∧ j + 3 ≤ k ∧ k ≤ j + 3 ∧ j ≤ ws.length ∧ gh = ws.length - j ∧ Hid (done.length = j) ∧ Hid (readIds ws = (readIds (ws.drop j)).map (done ++ ·)) ∧ wr.ownsRow w2.heap.size 71 2 vs j (idRow done) ∧ Below w2.heap.size w2 wr)
          case atStart => exact ⟨3, 0, [], rfl, by omega, by omega, Nat.zero_le _, rfl, Lib.hid rfl, Lib.hid (readIds_start ws), World.ownsRow_nil _ _ _ _, Below.refl _ _⟩
          case round =>
            obtain ⟨k, j, done, rfl, hk1, hk2, hj, hgm, hdl, hI, hrow, hB⟩ := hrel
            obtain ⟨A, c, rfl⟩ := own_formI hrow
            have HWRr := Lib.hid (HWR2.out.below hB HWR2.out.lt)
            have HWFr := Lib.hid (HWF2.out.below hB HWF2.out.lt)
            have HBr := Lib.hid (HB2.out.trans (hB.mono HB2.out.size))
            by_cases hkl : j < ws.length
            · have z0 := (hB.cell (p := ⟨g, k, none⟩) hg2).trans (HWC.out j k hkl hk1 hk2)
              have b1 : (0 : Int) ≤ (k : Int) := by omega
              have b2 : (k : Int) < (L.length : Int) := by omega
              have hxz : (bs ws[j]).size ≤ 40000 := by rw [bs_size]; exact HWM.out ws[j] (List.getElem_mem hkl)
              have HXT := Lib.hid (bs_toList ws[j])
              go_wp2_with fail
              refine (RReadID_any (bs ws[j]) (by omega) wr).mono ?_
              rintro e w6 ⟨rfl, hb6⟩
              rw [HXT.out]
              cases hx : readId ws[j] with
              | none =>
                have HE : Hid (readRcp t.data.toList = .error (1, -1)) := Lib.hid (by rw [HRE.out, readIds_hit hkl hx hI.out]; rfl)
                have hA6 := hb6.alloc hb6.size (.cells #[.int .u32 0, .int .i64 0] 71)
                rw [show idRes none = .tuple #[.agg #[.int .u32 0, .int .i64 0], .int .i64 1] from rfl]
                clear hx hI hrow
                go_wp2_with fail
                refine (RBareF_any 1 _).mono ?_
                rintro e w9 ⟨rfl, hb9⟩
                have hr4 := (HWRr.out.below hA6 HWRr.out.lt).below hb9 (HWRr.out.below hA6 HWRr.out.lt).lt
                have HR4 := Lib.hid hr4
                have hr2 := (HWFr.out.below hA6 HWFr.out.lt).below hb9 (HWFr.out.below hA6 HWFr.out.lt).lt
                have HR2 := Lib.hid hr2
                obtain ⟨c0, c1, c2, c3, hf⟩ := hr4
                have f0 := hf 0
                have f1 := hf 1
                have f2 := hf 2
                have f3 := hf 3
                obtain ⟨r0, r1, g0, g1⟩ := hr2
                obtain ⟨d0, d1, d2, d3, t0, t1⟩ := res42 HR4.out HR2.out (.string ⟨#[]⟩) (.int .i64 0) (.int .u32 0) (.slice none 0 0) (.int .i64 1) (.int .i64 (-1))
                have HB9 := Lib.hid (below_set2 (below_set4 ((HBr.out.trans (hA6.mono HBr.out.size)).trans (hb9.mono (HBr.out.trans (hA6.mono HBr.out.size)).size)) (Nat.le_refl _) (.string ⟨#[]⟩) (.int .i64 0) (.int .u32 0) (.slice none 0 0)) (Nat.le_succ _) (.int .i64 1) (.int .i64 (-1)))
                clear hb9
                clear hf
                go_wp2
                refine bodyPost_ret (v := .tuple #[zeroV, fltV (1, (-1))]) (by simp [results, Tryz.results38, go_sem, d0, d1, d2, d3, t0, t1, zeroV]) rfl ?_
                exact rread_bad HE.out HB9.out
              | some nj =>
                obtain ⟨nn, jj⟩ := nj
                obtain ⟨hn32, hj64⟩ := readId_bounds hx
                have HN := Lib.hid (readIds_next hkl hx hI.out)
                have HDN : Hid ((done ++ [(nn, (jj : Int))]).length = j + 1) := Lib.hid (by rw [List.length_append, hdl.out]; rfl)
                rw [show idRes (some (nn, jj)) = .tuple #[.agg #[.int .u32 (nn : Int), .int .i64 (jj : Int)], .int .i64 0] from rfl]
                have hA6 := hb6.alloc hb6.size (.cells #[.int .u32 (nn : Int), .int .i64 (jj : Int)] 71)
                have ho6 := own_belowI hrow hA6
                have HB6 := Lib.hid (hB.trans (hA6.mono hB.size))
                clear hx hI hb6 hA6 hrow
                go_wp2_with (at_builtin; refine wpList_append_own _ rfl _ _ 34 rfl w2.heap.size 71 i0 (.agg #[.int .u32 0, .int .i64 0]) 2 16 Tryz.underlying34 hi hzz0 hzz1 hzz2 rfl (by decide) _ _ _ rfl (ho6.alloc _) ⟨w6.heap.size + 1, 0, none⟩ 1 1 [.int .u32 (nn : Int), .int .i64 (jj : Int)] rfl rfl (by have := cell_newI (w6.alloc (.cells #[.int .u32 (nn : Int), .int .i64 (jj : Int)] 71)) (.int .u32 (nn : Int)) (.int .i64 (jj : Int)) 71; simpa using this) (by simp [Value.oneCell']) (by unfold maxLen; omega) (by omega) (by have := HB6.out.size; simp at this ⊢; omega) ?_; intro v8 w8 ho8 hg8 _)
                go_roundg (ws.length - (j + 1))
                case measure => omega
                case rel => exact ⟨k + 1, j + 1, done ++ [(nn, (jj : Int))], by go_num, by omega, by omega, hkl, rfl, HDN, HN, by rw [idRow_snoc]; exact ho8, ((HB6.out.alloc HB6.out.size _).grown hg8 (by have := HB6.out.size; simp at this ⊢; omega) (fun b he => own_ge ho6 he))⟩
            · obtain rfl : j = ws.length := by omega
              have hid := readIds_end hI.out
              have hdn : done.length ≤ 1000000 := by rw [hdl.out]; omega
              have HDB : Hid (∀ x ∈ done, x.1 < 4294967296 ∧ -9223372036854775808 ≤ x.2 ∧ x.2 ≤ 9223372036854775807) := Lib.hid (readIds_bounds _ _ hid).2
              have HRI := Lib.hid (RdI.own hrow hdl.out.symm)
              have HROW := Lib.hid hrow
              have HID := Lib.hid hid
              have z0 := (hB.cell (p := ⟨g, 0, none⟩) hg2).trans K0.out
              have hrb : RcpB ⟨p, (n : Int), u, done⟩ := ⟨by have := HP1.out; show p.length ≤ _; omega, hnb.1, hnb.2, hun, hdn, HDB.out⟩
              have hA5 := (Below.refl wr.heap.size wr).alloc (Nat.le_refl _) (.cells #[.string (bs p), .int .i64 (n : Int), .int .u32 (u : Int), .slice A ws.length c] 36)
              have hbx5 : Box4 wr.heap.size (.string (bs p)) (.int .i64 (n : Int)) (.int .u32 (u : Int)) (.slice A ws.length c) (wr.alloc (.cells #[.string (bs p), .int .i64 (n : Int), .int .u32 (u : Int), .slice A ws.length c] 36)) := Box4.mk' _ _ _ _ _ _
              have FL := Lib.hid (RRecipeFault_any (.agg #[.string (bs p), .int .i64 (n : Int), .int .u32 (u : Int), .slice A ws.length c]) ⟨p, (n : Int), u, done⟩ hrb (wr.alloc (.cells #[.string (bs p), .int .i64 (n : Int), .int .u32 (u : Int), .slice A ws.length c] 36)) ⟨_, rfl, (HRI.out.keep hA5 (Nat.le_refl _)).more hA5.size⟩)
              have HA5 := Lib.hid hA5
              have HBX5 := Lib.hid hbx5
              obtain ⟨x0, x1, x2, x3, _⟩ := hbx5
              clear hid hI hrow hA5 hrb
              go_wp2_with fail
              refine FL.out.mono ?_
              rintro e w8 ⟨rfl, hb8⟩
              have hb58 := (HA5.out.trans (hb8.mono HA5.out.size)).alloc (Nat.le_trans HA5.out.size hb8.size) (.cells #[.int .i64 (rcpFault ⟨p, (n : Int), u, done⟩).1, .int .i64 (rcpFault ⟨p, (n : Int), u, done⟩).2] 49)
              have hbf8 : Box2 w8.heap.size (.int .i64 (rcpFault ⟨p, (n : Int), u, done⟩).1) (.int .i64 (rcpFault ⟨p, (n : Int), u, done⟩).2) (w8.alloc (.cells #[.int .i64 (rcpFault ⟨p, (n : Int), u, done⟩).1, .int .i64 (rcpFault ⟨p, (n : Int), u, done⟩).2] 49)) := Box2.mk' _ _ _ _
              have HB8 := Lib.hid (HBr.out.trans (hb58.mono HBr.out.size))
              have HWR8 := Lib.hid (HWRr.out.below hb58 HWRr.out.lt)
              have HWF8 := Lib.hid (HWFr.out.below hb58 HWFr.out.lt)
              have hb8' := hb8.alloc hb8.size (.cells #[.int .i64 (rcpFault ⟨p, (n : Int), u, done⟩).1, .int .i64 (rcpFault ⟨p, (n : Int), u, done⟩).2] 49)
              obtain ⟨y0, y1, y2, y3, _⟩ := HBX5.out.below hb8' HBX5.out.lt
              have HROW8 := Lib.hid (own_belowI HROW.out hb58)
              have hs2 := HWR2.out.lt
              have hs3 : w.heap.size + 1 < w2.heap.size := HWF2.out.lt
              obtain ⟨m0, m1, _, _⟩ := hbf8
              have q1 := hB.size
              have q2 := HA5.out.size
              have q3 := hb8.size
              have ne1 : ¬ (w8.heap.size = w.heap.size) := by omega
              have ne2 : ¬ (w.heap.size = w8.heap.size) := by omega
              have ne3 : ¬ (w8.heap.size = w.heap.size + 1) := by omega
              have ne4 : ¬ (w.heap.size + 1 = w8.heap.size) := by omega
              clear q1 q2 q3
              by_cases hz0 : (rcpFault ⟨p, (n : Int), u, done⟩).1 = 0
              · have HE : Hid (readRcp t.data.toList = .ok ⟨p, (n : Int), u, done⟩) := Lib.hid (by rw [HRE.out, HID.out]; exact if_pos hz0)
                rw [rcpFault_two hz0] at m0 m1 HB8 HWR8 HWF8 HROW8 y0 y1 y2 y3 ⊢
                clear hz0 hb58 hb8 hb8'
                generalize hw9 : w8.alloc (.cells #[.int .i64 0, .int .i64 (-1)] 49) = w9 at m0 m1 HB8 HWR8 HWF8 HROW8 y0 y1 y2 y3
                have HW9 := Lib.hid hw9
                clear hw9
                have HP : Hid (RcpW (((((( w9.setCell ⟨w.heap.size, 0, none⟩ (.string (bs p))).setCell ⟨w.heap.size, 1, none⟩ (.int .i64 (n : Int))).setCell ⟨w.heap.size, 2, none⟩ (.int .u32 (u : Int))).setCell ⟨w.heap.size, 3, none⟩ (.slice A ws.length c)).setCell ⟨w.heap.size + 1, 0, none⟩ (.int .i64 0)).setCell ⟨w.heap.size + 1, 1, none⟩ (.int .i64 (-1)))
                    w.heap.size (((((( w9.setCell ⟨w.heap.size, 0, none⟩ (.string (bs p))).setCell ⟨w.heap.size, 1, none⟩ (.int .i64 (n : Int))).setCell ⟨w.heap.size, 2, none⟩ (.int .u32 (u : Int))).setCell ⟨w.heap.size, 3, none⟩ (.slice A ws.length c)).setCell ⟨w.heap.size + 1, 0, none⟩ (.int .i64 0)).setCell ⟨w.heap.size + 1, 1, none⟩ (.int .i64 (-1))).heap.size
                    (.agg #[.string (bs p), .int .i64 (n : Int), .int .u32 (u : Int), .slice A ws.length c]) ⟨p, (n : Int), u, done⟩) := Lib.hid ⟨_, rfl, (RdB.own (own_setI (own_setI (own_set4 HROW8.out (by omega) _ _ _ _) (by omega)) (by omega)) hdl.out.symm).wide (by omega) (Nat.le_refl _)⟩
                have hr4 := HWR8.out
                have HR4 := Lib.hid hr4
                have hr2 := HWF8.out
                have HR2 := Lib.hid hr2
                obtain ⟨c0, c1, c2, c3, hf⟩ := hr4
                have f0 := hf 0
                have f1 := hf 1
                have f2 := hf 2
                have f3 := hf 3
                obtain ⟨r0, r1, g0, g1⟩ := hr2
                obtain ⟨d0, d1, d2, d3, t0, t1⟩ := res42 HR4.out HR2.out (.string (bs p)) (.int .i64 (n : Int)) (.int .u32 (u : Int)) (.slice A ws.length c) (.int .i64 0) (.int .i64 (-1))
                have HB9 := Lib.hid (below_set2 (below_set4 (HB8.out) (Nat.le_refl _) (.string (bs p)) (.int .i64 (n : Int)) (.int .u32 (u : Int)) (.slice A ws.length c)) (Nat.le_succ _) (.int .i64 0) (.int .i64 (-1)))
                clear hf
                go_wp2
                rw [HW9.out]
                go_region
                go_wp2
                refine bodyPost_ret (v := .tuple #[.agg #[.string (bs p), .int .i64 (n : Int), .int .u32 (u : Int), .slice A ws.length c], fltV (0, (-1))]) (by simp [results, Tryz.results38, go_sem, d0, d1, d2, d3, t0, t1, zeroV]) rfl ?_
                exact rread_okD HE.out HP.out HB9.out
              · have HE : Hid (readRcp t.data.toList = .error (rcpFault ⟨p, (n : Int), u, done⟩)) := Lib.hid (by rw [HRE.out, HID.out]; exact if_neg hz0)
                have hpos := rcpFault_posR hz0
                generalize rcpFault ⟨p, (n : Int), u, done⟩ = fl at *
                obtain ⟨fc, ft⟩ := fl
                clear hz0 hb58 hb8 hb8'
                generalize hw9 : w8.alloc (.cells #[.int .i64 fc, .int .i64 ft] 49) = w9 at *
                have HW9 := Lib.hid hw9
                clear hw9
                have hr4 := HWR8.out
                have HR4 := Lib.hid hr4
                have hr2 := HWF8.out
                have HR2 := Lib.hid hr2
                obtain ⟨c0, c1, c2, c3, hf⟩ := hr4
                have f0 := hf 0
                have f1 := hf 1
                have f2 := hf 2
                have f3 := hf 3
                obtain ⟨r0, r1, g0, g1⟩ := hr2
                obtain ⟨d0, d1, d2, d3, t0, t1⟩ := res42 HR4.out HR2.out (.string ⟨#[]⟩) (.int .i64 0) (.int .u32 0) (.slice none 0 0) (.int .i64 fc) (.int .i64 ft)
                have HB9 := Lib.hid (below_set2 (below_set4 (HB8.out) (Nat.le_refl _) (.string ⟨#[]⟩) (.int .i64 0) (.int .u32 0) (.slice none 0 0)) (Nat.le_succ _) (.int .i64 fc) (.int .i64 ft))
                clear hf
                go_wp2
                rw [HW9.out]
                go_region
                go_wp2
                refine bodyPost_ret (v := .tuple #[zeroV, fltV (fc, ft)]) (by simp [results, Tryz.results38, go_sem, d0, d1, d2, d3, t0, t1, zeroV]) rfl ?_
                exact rread_badD HE.out HB9.out
end Go.Proofs.YtbokckjlgjnnjaaGreatDoor
/- Walks of the law's LongRecipe, OwnRecipe. No conditions but bounds. -/
namespace Go.Proofs.YtbokckjlgjnnjaaGreatDoor
open Go.RowKit Go.Lib

def longR (r : Rcp) : Int := if 30 < r.name.length ∨ (60 < r.ids.length ∧ r.ids.length ≠ 251) then 1 else 0
set_option maxRecDepth 100000 in
theorem LongRecipe_any (v : Value) (r : Rcp) (hn : r.name.length ≤ maxLen) (hc : r.ids.length ≤ maxLen) (B : Nat) (w : World) (hv : RcpV w B v r) :
    Calls Tryz.prog 16 #[v] w fun e w' => e = .returned (.int .i64 (longR r)) ∧ Below w.heap.size w w' := by
  obtain ⟨sl, rfl, hrd⟩ := hv
  obtain ⟨A, c, rfl, _, _⟩ := hrd.form
  have hb0 : Below w.heap.size w (w.alloc (.cells #[VT r.name, .int .i64 r.len, .int .u32 (r.print : Int), .slice A r.ids.length c] 36)) := (Below.refl _ w).alloc (Nat.le_refl _) _
  obtain ⟨c0, c1, c2, c3, _⟩ : Box4 w.heap.size (VT r.name) (.int .i64 r.len) (.int .u32 (r.print : Int)) (.slice A r.ids.length c) (w.alloc (.cells #[VT r.name, .int .i64 r.len, .int .u32 (r.print : Int), .slice A r.ids.length c] 36)) := Box4.mk' _ _ _ _ _ _
  have HZ := Lib.hid (bs_size r.name)
  have hz1 : (bs r.name).size ≤ maxLen := by rw [HZ.out]; exact hn
  unfold maxLen at hz1 hc
  have HB0 := Lib.hid hb0
  clear hrd hb0 hn
  by_cases h1 : 30 < r.name.length
  · have h1i : ((bs r.name).size : Int) > 30 := by rw [HZ.out]; omega
    have HR : Hid (longR r = 1) := Lib.hid (if_pos (.inl h1))
    clear h1
    go_enter Tryz.func16, Tryz.ntmps16
    go_wp2
    go_ret
    exact ⟨by rw [HR.out]; rfl, HB0.out⟩
  · have h1i : ¬ ((bs r.name).size : Int) > 30 := by rw [HZ.out]; omega
    by_cases h2 : 60 < r.ids.length
    · have h2i : (r.ids.length : Int) > 60 := by omega
      by_cases h3 : r.ids.length = 251
      · have h3i : ((r.ids.length : Int) != 251) = false := by rw [h3]; rfl
        have HR : Hid (longR r = 0) := Lib.hid (if_neg (by omega))
        clear h1 h2 h3
        go_enter Tryz.func16, Tryz.ntmps16
        go_wp2
        go_ret
        exact ⟨by rw [HR.out]; rfl, HB0.out⟩
      · have h3i : ((r.ids.length : Int) != 251) = true := by simp; omega
        have HR : Hid (longR r = 1) := Lib.hid (if_pos (.inr ⟨h2, h3⟩))
        clear h1 h2 h3
        go_enter Tryz.func16, Tryz.ntmps16
        go_wp2
        go_ret
        exact ⟨by rw [HR.out]; rfl, HB0.out⟩
    · have h2i : ¬ (r.ids.length : Int) > 60 := by omega
      have HR : Hid (longR r = 0) := Lib.hid (if_neg (by omega))
      clear h1 h2
      go_enter Tryz.func16, Tryz.ntmps16
      go_wp2
      go_ret
      exact ⟨by rw [HR.out]; rfl, HB0.out⟩
theorem Box4.setFar {b d j : Nat} {x y z u : Value} {w : World} (h : Box4 b x y z u w) (hd : b ≠ d) (v : Value) : Box4 b x y z u (w.setCell ⟨d, j, none⟩ v) :=
  have hne : ∀ i, (⟨d, j, none⟩ : Addr) ≠ ⟨b, i, none⟩ := fun i e => by injection e with e _; exact hd e.symm
  ⟨(World.cell?_setCell_other _ _ _ _ (hne 0)).trans h.c0, (World.cell?_setCell_other _ _ _ _ (hne 1)).trans h.c1, (World.cell?_setCell_other _ _ _ _ (hne 2)).trans h.c2, (World.cell?_setCell_other _ _ _ _ (hne 3)).trans h.c3, fun i => by rw [World.frozen?_setCell]; exact h.f i⟩
set_option maxRecDepth 100000 in
set_option maxHeartbeats 1000000 in
theorem OwnRecipe_any (v : Value) (r : Rcp) (hc : r.ids.length ≤ 1000000) (w : World) (hv : RcpV w w.heap.size v r) :
    Calls Tryz.prog 20 #[v] w fun e w' => ∃ v', e = .returned v' ∧ RcpW w' w.heap.size w'.heap.size v' r ∧ Below w.heap.size w w' := by
  obtain ⟨i0, hi, hz0, hz1, hz2⟩ := info_parts info_idI
  obtain ⟨sl, rfl, hrd⟩ := hv
  obtain ⟨A, c, rfl, _, _⟩ := hrd.form
  have hb0 : Below w.heap.size w ((w.alloc (.cells #[VT r.name, .int .i64 r.len, .int .u32 (r.print : Int), .slice A r.ids.length c] 36)).alloc (.cells #[.string ⟨#[]⟩, .int .i64 0, .int .u32 0, .slice none 0 0] 36)) := ((Below.refl _ w).alloc (Nat.le_refl _) _).alloc (by simp) _
  have hbx : Box4 w.heap.size (VT r.name) (.int .i64 r.len) (.int .u32 (r.print : Int)) (.slice A r.ids.length c) ((w.alloc (.cells #[VT r.name, .int .i64 r.len, .int .u32 (r.print : Int), .slice A r.ids.length c] 36)).alloc (.cells #[.string ⟨#[]⟩, .int .i64 0, .int .u32 0, .slice none 0 0] 36)) := (Box4.mk' w _ _ _ _ _).below ((Below.refl (w.alloc _).heap.size (w.alloc _)).alloc (Nat.le_refl _) _) (by simp)
  have hbr : Box4 (w.heap.size + 1) (.string ⟨#[]⟩) (.int .i64 0) (.int .u32 0) (.slice none 0 0) ((w.alloc (.cells #[VT r.name, .int .i64 r.len, .int .u32 (r.print : Int), .slice A r.ids.length c] 36)).alloc (.cells #[.string ⟨#[]⟩, .int .i64 0, .int .u32 0, .slice none 0 0] 36)) := by
    have := Box4.mk' (w.alloc (.cells #[VT r.name, .int .i64 r.len, .int .u32 (r.print : Int), .slice A r.ids.length c] 36)) (.string ⟨#[]⟩) (.int .i64 0) (.int .u32 0) (.slice none 0 0) 36
    simpa using this
  have HRD := Lib.hid (hrd.keep hb0 (Nat.le_refl _))
  have HB0 := Lib.hid hb0
  have HBR := Lib.hid hbr
  have HBX := Lib.hid hbx
  have hlt := hbr.lt
  have c03 := hbx.c3
  clear hrd hb0 hbx hbr
  have HSZ : Hid (((w.alloc (.cells #[VT r.name, .int .i64 r.len, .int .u32 (r.print : Int), .slice A r.ids.length c] 36)).alloc (.cells #[.string ⟨#[]⟩, .int .i64 0, .int .u32 0, .slice none 0 0] 36)).heap.size = w.heap.size + 2) := Lib.hid (by simp)
  go_enter Tryz.func20, Tryz.ntmps20
  go_wp2_with (first | (at_builtin; refine wpList_append_rdM rfl (.tmp 4) (.tmp 6) 34 rfl ((w.alloc (.cells #[VT r.name, .int .i64 r.len, .int .u32 (r.print : Int), .slice A r.ids.length c] 36)).alloc (.cells #[.string ⟨#[]⟩, .int .i64 0, .int .u32 0, .slice none 0 0] 36)).heap.size 71 i0 (.agg #[.int .u32 0, .int .i64 0]) 2 16 Tryz.underlying34 hi hz0 hz1 hz2 rfl (by decide) _ 0 [] rfl (World.ownsRow_nil _ _ _ _) w.heap.size _ r.ids.length (idRow r.ids) rfl HRD.out (idRow_one _) (by unfold maxLen; omega) (by omega) (Nat.le_refl _) ?_; intro v5 w5 ho5 hg5; have HS5 := Lib.hid ((Below.refl ((w.alloc (.cells #[VT r.name, .int .i64 r.len, .int .u32 (r.print : Int), .slice A r.ids.length c] 36)).alloc (.cells #[.string ⟨#[]⟩, .int .i64 0, .int .u32 0, .slice none 0 0] 36)).heap.size _).grown hg5 (Nat.le_refl _) (fun j hj => by cases hj)); have HO5 := Lib.hid ho5; obtain ⟨A5, c5, hv5⟩ := own_formI ho5; subst hv5; have hbx5 := HBX.out.below HS5.out HBX.out.lt; have hbr5 := HBR.out.below HS5.out HBR.out.lt; have HBX5 := Lib.hid hbx5; have HBR5 := Lib.hid hbr5; have d0 := hbx5.c0; have d1 := hbx5.c1; have d2 := hbx5.c2; have d3 := hbx5.c3; have f3 := hbx5.f 3; have e0 := hbr5.c0; have e1 := hbr5.c1; have e2 := hbr5.c2; have e3 := hbr5.c3; have g0 := hbr5.f 0; have g1 := hbr5.f 1; have g2 := hbr5.f 2; have g3 := hbr5.f 3; clear hbx5 hbr5 ho5 hg5 c03 hlt) | fail)
  have hz : w5.heap.size ≥ w.heap.size + 2 := by have := HS5.out.size; rw [HSZ.out] at this; exact this
  have HO6 := Lib.hid (own_setI (d := w.heap.size) (j := 3) (x := .slice A5 r.ids.length c5) HO5.out (by rw [HSZ.out]; omega))
  have HO7 := Lib.hid (own_set4 HO6.out (b := w.heap.size + 1) (by rw [HSZ.out]; omega) (VT r.name) (.int .i64 r.len) (.int .u32 (r.print : Int)) (.slice A5 r.ids.length c5))
  have HB7 := Lib.hid (below_set4 (((HB0.out.trans (HS5.out.mono HB0.out.size)).setCell (p := ⟨w.heap.size, 3, none⟩) (Nat.le_refl _) (.slice A5 r.ids.length c5))) (b := w.heap.size + 1) (by omega) (VT r.name) (.int .i64 r.len) (.int .u32 (r.print : Int)) (.slice A5 r.ids.length c5))
  have HP : Hid (RcpW (((((w5.setCell ⟨w.heap.size, 3, none⟩ (.slice A5 r.ids.length c5)).setCell ⟨w.heap.size + 1, 0, none⟩ (VT r.name)).setCell ⟨w.heap.size + 1, 1, none⟩ (.int .i64 r.len)).setCell ⟨w.heap.size + 1, 2, none⟩ (.int .u32 (r.print : Int))).setCell ⟨w.heap.size + 1, 3, none⟩ (.slice A5 r.ids.length c5)) w.heap.size (((((w5.setCell ⟨w.heap.size, 3, none⟩ (.slice A5 r.ids.length c5)).setCell ⟨w.heap.size + 1, 0, none⟩ (VT r.name)).setCell ⟨w.heap.size + 1, 1, none⟩ (.int .i64 r.len)).setCell ⟨w.heap.size + 1, 2, none⟩ (.int .u32 (r.print : Int))).setCell ⟨w.heap.size + 1, 3, none⟩ (.slice A5 r.ids.length c5)).heap.size (.agg #[VT r.name, .int .i64 r.len, .int .u32 (r.print : Int), .slice A5 r.ids.length c5]) r) := Lib.hid ⟨_, rfl, (RdB.own (by simpa using HO7.out) rfl).wide (by omega) (Nat.le_refl _)⟩
  obtain ⟨x0, x1, x2, x3, _⟩ := (HBR5.out.setFar (d := w.heap.size) (j := 3) (by omega) (.slice A5 r.ids.length c5)).set (VT r.name) (.int .i64 r.len) (.int .u32 (r.print : Int)) (.slice A5 r.ids.length c5)
  refine bodyPost_ret (v := .agg #[VT r.name, .int .i64 r.len, .int .u32 (r.print : Int), .slice A5 r.ids.length c5]) (by simp [results, Tryz.results20, go_sem, x0, x1, x2, x3]) rfl ?_
  exact ⟨_, rfl, HP.out, HB7.out⟩
end Go.Proofs.YtbokckjlgjnnjaaGreatDoor

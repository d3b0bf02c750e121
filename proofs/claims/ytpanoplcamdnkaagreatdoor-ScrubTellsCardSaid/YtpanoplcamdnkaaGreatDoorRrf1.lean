/- RefY, RrF, RrM in one text. Conditions: as each part says. -/
import Derived.Test.YtpanoplcamdnkaaGreatDoorName
import Derived.Test.YtpanoplcamdnkaaGreatDoorRcq3
import Derived.Test.YtpanoplcamdnkaaGreatDoorMrk1
/- Walk of the reference's IsName. No conditions but bounds. -/
namespace Go.Proofs.YtpanoplcamdnkaaGreatDoor
open Go.RowKit Go.Lib

theorem nameC (c : UInt8) : nameSet.contains c = (decide (97 ≤ c.toNat ∧ c.toNat ≤ 122) || decide (48 ≤ c.toNat ∧ c.toNat ≤ 57) || decide (c.toNat = 46) || decide (c.toNat = 45)) := by
  have h : ∀ i : Fin 256, nameSet.contains (UInt8.ofNat i.1) = (decide (97 ≤ (UInt8.ofNat i.1).toNat ∧ (UInt8.ofNat i.1).toNat ≤ 122) || decide (48 ≤ (UInt8.ofNat i.1).toNat ∧ (UInt8.ofNat i.1).toNat ≤ 57) || decide ((UInt8.ofNat i.1).toNat = 46) || decide ((UInt8.ofNat i.1).toNat = 45)) := by decide +kernel
  have := h ⟨c.toNat, c.toNat_lt⟩
  rwa [show UInt8.ofNat (⟨c.toNat, c.toNat_lt⟩ : Fin 256).1 = c from UInt8.ofNat_toNat] at this
theorem nameC_yes {c : UInt8} (h : (97 ≤ c.toNat ∧ c.toNat ≤ 122) ∨ (48 ≤ c.toNat ∧ c.toNat ≤ 57) ∨ c.toNat = 46 ∨ c.toNat = 45) : nameSet.contains c = true := by
  rw [nameC]
  rcases h with h | h | h | h
  · rw [decide_eq_true h]; rfl
  · rw [decide_eq_true h, Bool.or_true]; rfl
  · rw [decide_eq_true h, Bool.or_true]; rfl
  · rw [decide_eq_true h, Bool.or_true]
theorem nameC_no {c : UInt8} (h1 : ¬ (97 ≤ c.toNat ∧ c.toNat ≤ 122)) (h2 : ¬ (48 ≤ c.toNat ∧ c.toNat ≤ 57)) (h3 : ¬ c.toNat = 46) (h4 : ¬ c.toNat = 45) : nameSet.contains c = false := by
  rw [nameC, decide_eq_false h1, decide_eq_false h2, decide_eq_false h3, decide_eq_false h4]; rfl
theorem all_next {l : List UInt8} {k : Nat} (hk : k < l.length) (h : (l.take k).all (nameSet.contains ·) = true) (h1 : nameSet.contains l[k] = true) : (l.take (k + 1)).all (nameSet.contains ·) = true := by
  rw [List.take_succ_eq_append_getElem hk, List.all_append, h]; simp only [List.all_cons, List.all_nil, Bool.and_true, h1]
theorem all_hit {l : List UInt8} {k : Nat} (hk : k < l.length) (h1 : nameSet.contains l[k] = false) : isName l = false := by
  unfold isName
  have : l.all (nameSet.contains ·) = false := by
    rw [List.all_eq_false]
    exact ⟨l[k], List.getElem_mem hk, by rw [h1]; simp⟩
  rw [this, Bool.and_false]
set_option maxRecDepth 100000 in
set_option maxHeartbeats 1000000 in
theorem RIsName_any (t : ByteArray) (ht : t.size ≤ 9223372036854775807) (w : World) :
    Calls Tryz.prog 186 #[.string t] w fun e w' => e = .returned (.bool (isName t.data.toList)) ∧ w = w' := by
  have HZ := Lib.hid (size_toList t)
  go_enter Tryz.func186, Tryz.ntmps186
  go_wp2
  go_loop [3] (fun vi => ∃ k : Nat, vi = .int .i64 k ∧ k ≤ t.size ∧ Hid ((t.data.toList.take k).all (nameSet.contains ·) = true)) (fun vi => t.size - (RowKit.intOf vi).toNat)
  case atStart => exact ⟨0, rfl, Nat.zero_le _, rfl⟩
  case round =>
    obtain ⟨k, rfl, hk, hall⟩ := hrel
    by_cases hkl : k < t.size
    · have hkl' : k < t.data.toList.length := by rw [← HZ.out]; exact hkl
      have b1 : (0 : Int) ≤ (k : Int) := by omega
      have b2 : (k : Int) < (t.size : Int) := by omega
      have hc256 := t[k].toNat_lt
      have HG : Hid (t.data.toList[k] = t[k]) := Lib.hid rfl
      by_cases h1 : 97 ≤ t[k].toNat
      · have h1i : (97 : Int) ≤ (t[k].toNat : Int) := by omega
        have h48 : (48 : Int) ≤ (t[k].toNat : Int) := by omega
        have h57 : ¬ (t[k].toNat : Int) ≤ 57 := by omega
        by_cases h2 : t[k].toNat ≤ 122
        · have h2i : (t[k].toNat : Int) ≤ (122 : Int) := by omega
          have HN : Hid ((t.data.toList.take (k + 1)).all (nameSet.contains ·) = true) := Lib.hid (all_next hkl' hall.out (by rw [HG.out]; exact nameC_yes (by omega)))
          go_wp2
          go_round
          case rel => exact ⟨k + 1, by go_num, hkl, HN⟩
          case measure => simp [RowKit.intOf]; omega
        · have h2i : ¬ (t[k].toNat : Int) ≤ (122 : Int) := by omega
          have q46 : ((t[k].toNat : Int) != 46) = true := by simp; omega
          have q45 : ((t[k].toNat : Int) != 45) = true := by simp; omega
          have HJ : Hid (isName t.data.toList = false) := Lib.hid (all_hit hkl' (by rw [HG.out]; exact nameC_no (by omega) (by omega) (by omega) (by omega)))
          go_wp2
          go_ret
          exact ⟨by rw [HJ.out]; rfl, rfl⟩
      · have h1i : ¬ (97 : Int) ≤ (t[k].toNat : Int) := by omega
        by_cases h3 : 48 ≤ t[k].toNat
        · have h3i : (48 : Int) ≤ (t[k].toNat : Int) := by omega
          by_cases h4 : t[k].toNat ≤ 57
          · have h4i : (t[k].toNat : Int) ≤ (57 : Int) := by omega
            have HN : Hid ((t.data.toList.take (k + 1)).all (nameSet.contains ·) = true) := Lib.hid (all_next hkl' hall.out (by rw [HG.out]; exact nameC_yes (by omega)))
            go_wp2
            go_round
            case rel => exact ⟨k + 1, by go_num, hkl, HN⟩
            case measure => simp [RowKit.intOf]; omega
          · have h4i : ¬ (t[k].toNat : Int) ≤ (57 : Int) := by omega
            have q46 : ((t[k].toNat : Int) != 46) = true := by simp; omega
            have q45 : ((t[k].toNat : Int) != 45) = true := by simp; omega
            have HJ : Hid (isName t.data.toList = false) := Lib.hid (all_hit hkl' (by rw [HG.out]; exact nameC_no (by omega) (by omega) (by omega) (by omega)))
            go_wp2
            go_ret
            exact ⟨by rw [HJ.out]; rfl, rfl⟩
        · have h3i : ¬ (48 : Int) ≤ (t[k].toNat : Int) := by omega
          by_cases h5 : t[k].toNat = 46
          · have h5i : ((t[k].toNat : Int) != 46) = false := by rw [h5]; rfl
            have HN : Hid ((t.data.toList.take (k + 1)).all (nameSet.contains ·) = true) := Lib.hid (all_next hkl' hall.out (by rw [HG.out]; exact nameC_yes (by omega)))
            go_wp2
            go_round
            case rel => exact ⟨k + 1, by go_num, hkl, HN⟩
            case measure => simp [RowKit.intOf]; omega
          · have h5i : ((t[k].toNat : Int) != 46) = true := by simp; omega
            by_cases h6 : t[k].toNat = 45
            · have h6i : ((t[k].toNat : Int) != 45) = false := by rw [h6]; rfl
              have HN : Hid ((t.data.toList.take (k + 1)).all (nameSet.contains ·) = true) := Lib.hid (all_next hkl' hall.out (by rw [HG.out]; exact nameC_yes (by omega)))
              go_wp2
              go_round
              case rel => exact ⟨k + 1, by go_num, hkl, HN⟩
              case measure => simp [RowKit.intOf]; omega
            · have h6i : ((t[k].toNat : Int) != 45) = true := by simp; omega
              have HJ : Hid (isName t.data.toList = false) := Lib.hid (all_hit hkl' (by rw [HG.out]; exact nameC_no (by omega) (by omega) (by omega) (by omega)))
              go_wp2
              go_ret
              exact ⟨by rw [HJ.out]; rfl, rfl⟩
    · obtain rfl : k = t.size := by omega
      have HA : Hid (t.data.toList.all (nameSet.contains ·) = true) := Lib.hid (by
        have h := hall.out
        rwa [HZ.out, List.take_of_length_le (Nat.le_refl _)] at h)
      by_cases h1 : 1 ≤ t.size
      · have h1i : (1 : Int) ≤ (t.size : Int) := by omega
        by_cases h12 : t.size ≤ 12
        · have h12i : (t.size : Int) ≤ 12 := by omega
          have HJ : Hid (isName t.data.toList = true) := Lib.hid (by unfold isName; rw [HA.out, decide_eq_true (show 1 ≤ t.data.toList.length by rw [← HZ.out]; exact h1), decide_eq_true (show t.data.toList.length ≤ 12 by rw [← HZ.out]; exact h12)]; rfl)
          go_wp2
          go_ret
          exact ⟨by rw [HJ.out]; rfl, rfl⟩
        · have h12i : ¬ (t.size : Int) ≤ 12 := by omega
          have HJ : Hid (isName t.data.toList = false) := Lib.hid (by unfold isName; rw [decide_eq_false (show ¬ t.data.toList.length ≤ 12 by rw [← HZ.out]; exact h12), Bool.and_false, Bool.false_and])
          go_wp2
          go_ret
          exact ⟨by rw [HJ.out]; rfl, rfl⟩
      · have h1i : ¬ (1 : Int) ≤ (t.size : Int) := by omega
        have HJ : Hid (isName t.data.toList = false) := Lib.hid (by unfold isName; rw [decide_eq_false (show ¬ 1 ≤ t.data.toList.length by rw [← HZ.out]; exact h1), Bool.false_and, Bool.false_and])
        go_wp2
        go_ret
        exact ⟨by rw [HJ.out]; rfl, rfl⟩
end Go.Proofs.YtpanoplcamdnkaaGreatDoor
/- Walks of the reference's Bare, Fine, RecipeFault. No conditions but bounds. -/
namespace Go.Proofs.YtpanoplcamdnkaaGreatDoor
open Go.RowKit Go.Lib

abbrev fltV (f : Int × Int) : Value := .agg #[.int .i64 f.1, .int .i64 f.2]
theorem RBareF_any (c : Int) (w : World) : Calls Tryz.prog 81 #[.int .i64 c] w fun e w' => e = .returned (fltV (c, -1)) ∧ Below w.heap.size w w' := by
  have hb1 := fun x y => ((Below.refl w.heap.size w).alloc (Nat.le_refl _) (.cells #[x, y] 76))
  go_enter Tryz.func81, Tryz.ntmps81
  go_wp2
  go_returns
  exact ⟨rfl, hb1 _ _⟩
theorem RFine_any (w : World) : Calls Tryz.prog 85 #[] w fun e w' => e = .returned (fltV (0, -1)) ∧ Below w.heap.size w w' := by
  have hb1 := fun x y => ((Below.refl w.heap.size w).alloc (Nat.le_refl _) (.cells #[x, y] 76))
  go_enter Tryz.func85, Tryz.ntmps85
  go_wp2
  go_returns
  exact ⟨rfl, hb1 _ _⟩
def FltPost (r : Rcp) (w : World) (e : Ending) (w' : World) : Prop := e = .returned (fltV (rcpFault r)) ∧ Below w.heap.size w w'
set_option maxRecDepth 100000 in
set_option maxHeartbeats 2000000 in
theorem RRecipeFault_any (v : Value) (r : Rcp) (hb : RcpB r) (w : World) (hv : RcpV w w.heap.size v r) :
    Calls Tryz.prog 136 #[v] w (FltPost r w) := by
  obtain ⟨sl, rfl, hrd⟩ := hv
  obtain ⟨A, c, rfl, hcap, hcells⟩ := hrd.form
  have hb0 : Below w.heap.size w ((w.alloc (.cells #[VT r.name, .int .i64 r.len, .int .u32 (r.print : Int), .slice A r.ids.length c] 65)).alloc (.cells #[.int .i64 0, .int .i64 0] 76)) := ((Below.refl _ w).alloc (Nat.le_refl _) _).alloc (by simp) _
  have hbx : Box4 w.heap.size (VT r.name) (.int .i64 r.len) (.int .u32 (r.print : Int)) (.slice A r.ids.length c) ((w.alloc (.cells #[VT r.name, .int .i64 r.len, .int .u32 (r.print : Int), .slice A r.ids.length c] 65)).alloc (.cells #[.int .i64 0, .int .i64 0] 76)) := (Box4.mk' w _ _ _ _ _).below ((Below.refl (w.alloc _).heap.size (w.alloc _)).alloc (Nat.le_refl _) _) (by simp)
  have hbr : Box2 (w.heap.size + 1) (.int .i64 0) (.int .i64 0) ((w.alloc (.cells #[VT r.name, .int .i64 r.len, .int .u32 (r.print : Int), .slice A r.ids.length c] 65)).alloc (.cells #[.int .i64 0, .int .i64 0] 76)) := by
    have := Box2.mk' (w.alloc (.cells #[VT r.name, .int .i64 r.len, .int .u32 (r.print : Int), .slice A r.ids.length c] 65)) (.int .i64 0) (.int .i64 0) 76
    simpa using this
  have HC := Lib.hid hcells
  have HB0 := Lib.hid hb0
  have HBX := Lib.hid hbx
  have HBR := Lib.hid hbr
  have hnz : (bs r.name).size ≤ 9223372036854775807 := by rw [bs_size]; have := hb.n; omega
  have hlz := hb.c
  have HN2 := Lib.hid (bs_toList r.name)
  have NAME := Lib.hid (fun w => RIsName_any (bs r.name) hnz w)
  obtain ⟨c0, c1, c2, c3, _⟩ := hbx
  have fin : ∀ (w1 : World) (f : Int × Int), Below ((w.alloc (.cells #[VT r.name, .int .i64 r.len, .int .u32 (r.print : Int), .slice A r.ids.length c] 65)).alloc (.cells #[.int .i64 0, .int .i64 0] 76)).heap.size ((w.alloc (.cells #[VT r.name, .int .i64 r.len, .int .u32 (r.print : Int), .slice A r.ids.length c] 65)).alloc (.cells #[.int .i64 0, .int .i64 0] 76)) w1 →
      Box2 (w.heap.size + 1) (.int .i64 0) (.int .i64 0) w1 ∧ Below w.heap.size w ((w1.setCell ⟨w.heap.size + 1, 0, none⟩ (.int .i64 f.1)).setCell ⟨w.heap.size + 1, 1, none⟩ (.int .i64 f.2)) := fun w1 f h1 =>
    ⟨HBR.out.below h1 HBR.out.lt, below_set2 (HB0.out.trans (h1.mono HB0.out.size)) (Nat.le_succ _) _ _⟩
  have FIN := Lib.hid fin
  clear hcells hrd hb0 hbr fin
  cases hN : isName r.name with
  | false =>
    have HF : Hid (rcpFault r = (4, -1)) := Lib.hid (if_pos hN)
    have HNM := Lib.hid hN
    clear hN
    go_enter Tryz.func136, Tryz.ntmps136
    go_wp2_with fail
    refine (NAME.out _).mono ?_
    rintro e w1 ⟨rfl, rfl⟩
    rw [HN2.out, HNM.out]
    go_wp2_with fail
    refine (RBareF_any 4 _).mono ?_
    rintro e w1 ⟨rfl, hb1⟩
    obtain ⟨hbr1, hB9⟩ := FIN.out w1 (4, -1) hb1
    have HBR1 := Lib.hid hbr1
    obtain ⟨r0, r1, f0, f1⟩ := hbr1
    obtain ⟨t0, t1, t2⟩ := HBR1.out.rd (.int .i64 4) (.int .i64 (-1))
    have HB9 := Lib.hid hB9
    clear hb1 hB9
    go_wp2
    refine bodyPost_ret (v := fltV (4, -1)) (by simp [results, Tryz.results136, go_sem, t0, t1]) rfl ?_
    exact ⟨by rw [HF.out], HB9.out⟩
  | true =>
    have HNM := Lib.hid hN
    have hnf : ¬ isName r.name = false := by rw [hN]; simp
    clear hN
    by_cases h1 : r.len < 0
    · have HF : Hid (rcpFault r = (2, -1)) := Lib.hid ((if_neg hnf).trans (if_pos (.inl h1)))
      clear hnf
      go_enter Tryz.func136, Tryz.ntmps136
      go_wp2_with fail
      refine (NAME.out _).mono ?_
      rintro e w1 ⟨rfl, rfl⟩
      rw [HN2.out, HNM.out]
      go_wp2_with fail
      refine (RBareF_any 2 _).mono ?_
      rintro e w1 ⟨rfl, hb1⟩
      obtain ⟨hbr1, hB9⟩ := FIN.out w1 (2, -1) hb1
      have HBR1 := Lib.hid hbr1
      obtain ⟨r0, r1, f0, f1⟩ := hbr1
      obtain ⟨t0, t1, t2⟩ := HBR1.out.rd (.int .i64 2) (.int .i64 (-1))
      have HB9 := Lib.hid hB9
      clear hb1 hB9
      go_wp2
      refine bodyPost_ret (v := fltV (2, -1)) (by simp [results, Tryz.results136, go_sem, t0, t1]) rfl ?_
      exact ⟨by rw [HF.out], HB9.out⟩
    · by_cases h2 : 4000 < r.len
      · have HF : Hid (rcpFault r = (2, -1)) := Lib.hid ((if_neg hnf).trans (if_pos (.inr h2)))
        clear hnf
        go_enter Tryz.func136, Tryz.ntmps136
        go_wp2_with fail
        refine (NAME.out _).mono ?_
        rintro e w1 ⟨rfl, rfl⟩
        rw [HN2.out, HNM.out]
        go_wp2_with fail
        refine (RBareF_any 2 _).mono ?_
        rintro e w1 ⟨rfl, hb1⟩
        obtain ⟨hbr1, hB9⟩ := FIN.out w1 (2, -1) hb1
        have HBR1 := Lib.hid hbr1
        obtain ⟨r0, r1, f0, f1⟩ := hbr1
        obtain ⟨t0, t1, t2⟩ := HBR1.out.rd (.int .i64 2) (.int .i64 (-1))
        have HB9 := Lib.hid hB9
        clear hb1 hB9
        go_wp2
        refine bodyPost_ret (v := fltV (2, -1)) (by simp [results, Tryz.results136, go_sem, t0, t1]) rfl ?_
        exact ⟨by rw [HF.out], HB9.out⟩
      · by_cases h3 : 250 < r.ids.length
        · have h3i : 250 < (r.ids.length : Int) := by omega
          have HF : Hid (rcpFault r = (7, -1)) := Lib.hid ((if_neg hnf).trans ((if_neg (by omega)).trans (if_pos h3)))
          clear hnf h3
          go_enter Tryz.func136, Tryz.ntmps136
          go_wp2_with fail
          refine (NAME.out _).mono ?_
          rintro e w1 ⟨rfl, rfl⟩
          rw [HN2.out, HNM.out]
          go_wp2_with fail
          refine (RBareF_any 7 _).mono ?_
          rintro e w1 ⟨rfl, hb1⟩
          obtain ⟨hbr1, hB9⟩ := FIN.out w1 (7, -1) hb1
          have HBR1 := Lib.hid hbr1
          obtain ⟨r0, r1, f0, f1⟩ := hbr1
          obtain ⟨t0, t1, t2⟩ := HBR1.out.rd (.int .i64 7) (.int .i64 (-1))
          have HB9 := Lib.hid hB9
          clear hb1 hB9
          go_wp2
          refine bodyPost_ret (v := fltV (7, -1)) (by simp [results, Tryz.results136, go_sem, t0, t1]) rfl ?_
          exact ⟨by rw [HF.out], HB9.out⟩
        · have h3i : ¬ 250 < (r.ids.length : Int) := by omega
          have HF0 : Hid (rcpFault r = idsFault r.len 0 0 r.ids) := Lib.hid ((if_neg hnf).trans ((if_neg (by omega)).trans (if_neg h3)))
          have HD : Hid (r.ids.drop r.ids.length = []) := Lib.hid (List.drop_eq_nil_of_le (Nat.le_refl _))
          clear hnf
          go_enter Tryz.func136, Tryz.ntmps136
          go_wp2_with fail
          refine (NAME.out _).mono ?_
          rintro e w1 ⟨rfl, rfl⟩
          rw [HN2.out, HNM.out]
          go_wp2
          generalize (w.alloc (.cells #[VT r.name, .int .i64 r.len, .int .u32 (r.print : Int), .slice A r.ids.length c] 65)).alloc (.cells #[.int .i64 0, .int .i64 0] 76) = w0 at *
          go_loopg [4, 5] r.ids.length (fun gh va vi wr => w0 = wr ∧ ∃ (k : Nat) (n : Int), vi = .int .i64 k ∧ va = .int .i64 n ∧ k ≤ r.ids.length ∧ gh = r.ids.length - k ∧ 0 ≤ n ∧ n ≤ 64 * (k : Int) ∧ Hid (idsFault r.len 0 0 r.ids = idsFault r.len k n (r.ids.drop k)))
          case atStart => exact ⟨rfl, 0, 0, rfl, rfl, Nat.zero_le _, rfl, by omega, by omega, Lib.hid rfl⟩
          case round =>
            obtain ⟨rfl, k, n, rfl, rfl, hk, hgm, hn0, hn1, hI⟩ := hrel
            by_cases hkl : k < r.ids.length
            · obtain ⟨g, o, rfl, hg, hx⟩ := HC.out (by omega)
              obtain ⟨x0, x1⟩ := hx k hkl
              have y1 := (HB0.out.cell (p := ⟨g, o + k * 2 + 1, none⟩) hg).trans x1
              have b1 : (0 : Int) ≤ (k : Int) := by omega
              have b2 : (k : Int) < (r.ids.length : Int) := by omega
              clear hx x0 x1
              by_cases hbad : r.ids[k].2 < 1 ∨ 64 < r.ids[k].2
              · have HF : Hid (rcpFault r = (3, (k : Int))) := Lib.hid (HF0.out.trans (hI.out.trans (fault_hit hkl hbad)))
                obtain ⟨r0, r1, f0, f1⟩ := HBR.out
                obtain ⟨t0, t1, t2⟩ := HBR.out.rd (.int .i64 3) (.int .i64 (k : Int))
                have HB9 := Lib.hid (below_set2 HB0.out (Nat.le_succ _) (.int .i64 3) (.int .i64 (k : Int)))
                clear hI
                rcases hbad with h5 | h5
                · go_wp2
                  refine bodyPost_ret (v := fltV (3, (k : Int))) (by simp [results, Tryz.results136, go_sem, t0, t1]) rfl ?_
                  exact ⟨by rw [HF.out], HB9.out⟩
                · have h6 : ¬ r.ids[k].2 < 1 := by omega
                  go_wp2
                  refine bodyPost_ret (v := fltV (3, (k : Int))) (by simp [results, Tryz.results136, go_sem, t0, t1]) rfl ?_
                  exact ⟨by rw [HF.out], HB9.out⟩
              · have HN := Lib.hid (hI.out.trans (fault_next hkl hbad))
                have h5 : ¬ r.ids[k].2 < 1 := by omega
                have h6 : ¬ 64 < r.ids[k].2 := by omega
                clear hI hbad
                go_wp2
                go_roundg (r.ids.length - (k + 1))
                case measure => omega
                case rel => exact ⟨rfl, k + 1, n + r.ids[k].2, by go_num, by go_num, hkl, rfl, by omega, by omega, HN⟩
            · obtain rfl : k = r.ids.length := by omega
              have hI2 := HF0.out.trans hI.out
              rw [HD.out] at hI2
              by_cases hn : n = r.len
              · have hni : (n != r.len) = false := by rw [hn]; simp
                have HF : Hid (rcpFault r = (0, -1)) := Lib.hid (hI2.trans (if_pos hn))
                clear hI hI2 hn
                go_wp2_with fail
                refine (RFine_any _).mono ?_
                rintro e w1 ⟨rfl, hb1⟩
                obtain ⟨hbr1, hB9⟩ := FIN.out w1 (0, -1) hb1
                have HBR1 := Lib.hid hbr1
                obtain ⟨r0, r1, f0, f1⟩ := hbr1
                obtain ⟨t0, t1, t2⟩ := HBR1.out.rd (.int .i64 0) (.int .i64 (-1))
                have HB9 := Lib.hid hB9
                clear hb1 hB9
                go_wp2
                refine bodyPost_ret (v := fltV (0, -1)) (by simp [results, Tryz.results136, go_sem, t0, t1]) rfl ?_
                exact ⟨by rw [HF.out], HB9.out⟩
              · have hni : (n != r.len) = true := by simpa using hn
                have HF : Hid (rcpFault r = (9, -1)) := Lib.hid (hI2.trans (if_neg hn))
                clear hI hI2 hn
                go_wp2_with fail
                refine (RBareF_any 9 _).mono ?_
                rintro e w1 ⟨rfl, hb1⟩
                obtain ⟨hbr1, hB9⟩ := FIN.out w1 (9, -1) hb1
                have HBR1 := Lib.hid hbr1
                obtain ⟨r0, r1, f0, f1⟩ := hbr1
                obtain ⟨t0, t1, t2⟩ := HBR1.out.rd (.int .i64 9) (.int .i64 (-1))
                have HB9 := Lib.hid hB9
                clear hb1 hB9
                go_wp2
                refine bodyPost_ret (v := fltV (9, -1)) (by simp [results, Tryz.results136, go_sem, t0, t1]) rfl ?_
                exact ⟨by rw [HF.out], HB9.out⟩
end Go.Proofs.YtpanoplcamdnkaaGreatDoor
/- Walk of the reference's RepOf. No conditions but bounds. -/
namespace Go.Proofs.YtpanoplcamdnkaaGreatDoor
open Go.RowKit Go.Lib

set_option maxRecDepth 100000 in
set_option maxHeartbeats 2000000 in
theorem RRepOf_any (v : Value) (r : Rcp) (hc : r.ids.length ≤ 1000000) (w : World) (hv : RcpV w w.heap.size v r) :
    Calls Tryz.prog 138 #[v] w fun e w' => e = .returned (idV (repOf r.ids)) ∧ Below w.heap.size w w' := by
  obtain ⟨sl, rfl, hrd⟩ := hv
  have hb0 : Below w.heap.size w ((w.alloc (.cells #[VT r.name, .int .i64 r.len, .int .u32 (r.print : Int), sl] 65)).alloc (.cells #[.int .u32 0, .int .i64 0] 47)) := ((Below.refl _ w).alloc (Nat.le_refl _) _).alloc (by simp) _
  have hbx : Box4 w.heap.size (VT r.name) (.int .i64 r.len) (.int .u32 (r.print : Int)) sl ((w.alloc (.cells #[VT r.name, .int .i64 r.len, .int .u32 (r.print : Int), sl] 65)).alloc (.cells #[.int .u32 0, .int .i64 0] 47)) := (Box4.mk' w _ _ _ _ _).below ((Below.refl (w.alloc _).heap.size (w.alloc _)).alloc (Nat.le_refl _) _) (by simp)
  have hbr : Box2 (w.heap.size + 1) (.int .u32 0) (.int .i64 0) ((w.alloc (.cells #[VT r.name, .int .i64 r.len, .int .u32 (r.print : Int), sl] 65)).alloc (.cells #[.int .u32 0, .int .i64 0] 47)) := by
    have := Box2.mk' (w.alloc (.cells #[VT r.name, .int .i64 r.len, .int .u32 (r.print : Int), sl] 65)) (.int .u32 0) (.int .i64 0) 47
    simpa using this
  have hrd0 := (hrd.keep hb0 (Nat.le_refl _))
  obtain ⟨A, c, rfl, hcap, _⟩ := hrd.form
  have HB0 := Lib.hid hb0
  have HBR := Lib.hid hbr
  have HBX := Lib.hid hbx
  obtain ⟨_, _, hv1, _, hcells⟩ := hrd0.form
  injection hv1 with e1 e2 e3
  subst e1
  have HC := Lib.hid hcells
  obtain ⟨c0, c1, c2, c3, _⟩ := hbx
  have ID0 : ∀ w, Calls Tryz.prog 143 #[.string ⟨#[]⟩] w fun e w' => e = .returned (idV (idOf [])) ∧ Below w.heap.size w w' := fun w => IDOf_any ⟨#[]⟩ w (by decide)
  have HID := Lib.hid ID0
  have hsz0 : ((w.alloc (.cells #[VT r.name, .int .i64 r.len, .int .u32 (r.print : Int), .slice A r.ids.length c] 65)).alloc (.cells #[.int .u32 0, .int .i64 0] 47)).heap.size = w.heap.size + 2 := by simp
  clear hb0 hbr hrd hrd0 ID0 hcells e2 e3
  by_cases hz : r.ids = []
  · have HR : Hid (repOf r.ids = idOf []) := Lib.hid (by rw [hz]; rfl)
    have hl : r.ids.length = 0 := by rw [hz]; rfl
    have hli : ((r.ids.length : Int) == 0) = true := by rw [hl]; rfl
    clear hz hl hsz0
    go_enter Tryz.func138, Tryz.ntmps138
    go_wp2_with fail
    refine (HID.out _).mono ?_
    rintro e w1 ⟨rfl, hb1⟩
    have hbr1 := HBR.out.below hb1 HBR.out.lt
    have HBR1 := Lib.hid hbr1
    obtain ⟨r0, r1, f0, f1⟩ := hbr1
    obtain ⟨t0, t1, t2⟩ := HBR1.out.rd (.int .u32 ((idOf []).1 : Int)) (.int .i64 (idOf []).2)
    have HB9 := Lib.hid (below_set2 (HB0.out.trans (hb1.mono HB0.out.size)) (Nat.le_succ _) (.int .u32 ((idOf []).1 : Int)) (.int .i64 (idOf []).2))
    clear hb1
    go_wp2
    refine bodyPost_ret (v := idV (idOf [])) (by simp [results, Tryz.results138, go_sem, t0, t1]) rfl ?_
    exact ⟨by rw [HR.out], HB9.out⟩
  · have hl : 0 < r.ids.length := List.length_pos_iff.2 hz
    have hli : ((r.ids.length : Int) == 0) = false := by rw [beq_eq_false_iff_ne]; omega
    obtain ⟨g, o, rfl, hg, hx⟩ := HC.out hl
    obtain ⟨x0, x1⟩ := hx 0 hl
    simp only [Nat.zero_mul, Nat.add_zero] at x0 x1
    have h0j : 0 < (r.ids.length : Int) := by omega
    have HREP : Hid (repOf r.ids = repFrom r.ids[0] (r.ids.drop 1)) := Lib.hid (by
      conv => lhs; rw [← List.drop_zero (l := r.ids), List.drop_eq_getElem_cons hl]
      rfl)
    have HX := Lib.hid hx
    clear hz hx
    go_enter Tryz.func138, Tryz.ntmps138
    go_wp2
    generalize (w.alloc (.cells #[VT r.name, .int .i64 r.len, .int .u32 (r.print : Int), .slice (some ⟨g, o, none⟩) r.ids.length c] 65)).alloc (.cells #[.int .u32 0, .int .i64 0] 47) = w0 at *
    have hb1 : Below w0.heap.size w0 (w0.alloc (.cells #[.int .u32 (r.ids[0].1 : Int), .int .i64 r.ids[0].2] 47)) := (Below.refl _ w0).alloc (Nat.le_refl _) _
    have hm0 : Box2 w0.heap.size (.int .u32 (r.ids[0].1 : Int)) (.int .i64 r.ids[0].2) (w0.alloc (.cells #[.int .u32 (r.ids[0].1 : Int), .int .i64 r.ids[0].2] 47)) := Box2.mk' _ _ _ _
    generalize w0.alloc (.cells #[.int .u32 (r.ids[0].1 : Int), .int .i64 r.ids[0].2] 47) = w1 at *
    have HB01 := Lib.hid hb1
    rw [hsz0] at hm0
    have hlt0 := hm0.lt
    clear hb1 x0 x1
    go_loopg [4] (r.ids.length - 1) (fun gh vi wr => ∃ (k : Nat) (m : Idn), vi = .int .i64 k ∧ 1 ≤ k ∧ k ≤ r.ids.length ∧ gh = r.ids.length - k ∧ Hid (repOf r.ids = repFrom m (r.ids.drop k)) ∧ w1.grownBy wr (some (w.heap.size + 2)) ∧ Box2 (w.heap.size + 2) (.int .u32 (m.1 : Int)) (.int .i64 m.2) wr)
    case atStart => exact ⟨1, r.ids[0], rfl, by omega, hl, rfl, HREP, ⟨rfl, rfl, rfl, Nat.le_refl _, fun _ _ _ => rfl⟩, hm0⟩
    case round =>
      obtain ⟨k, m, rfl, hk1, hk, hgm, hI, hg9, hbm⟩ := hrel
      have hnew : ∀ b, b ≠ w.heap.size + 2 → some b ≠ some (w.heap.size + 2) := fun b hb e => hb (Option.some.inj e)
      have hbx9 := gb_box4 hg9 (hnew _ (by omega)) (HBX.out.below HB01.out (by omega))
      have HBX9 := Lib.hid hbx9
      have er3 := hbx9.c3
      by_cases hkl : k < r.ids.length
      · obtain ⟨x0, x1⟩ := HX.out k hkl
        have hg0 : g < w0.heap.size := by omega
        have hg1 : g < w1.heap.size := by omega
        have hgr : g < wr.heap.size := by have := hg9.size; omega
        have y0 := (hg9.cell_far ⟨g, o + k * 2, none⟩ hg1 (hnew _ (by show g ≠ _; omega))).trans ((HB01.out.cell (p := ⟨g, o + k * 2, none⟩) hg0).trans x0)
        have y1 := (hg9.cell_far ⟨g, o + k * 2 + 1, none⟩ hg1 (hnew _ (by show g ≠ _; omega))).trans ((HB01.out.cell (p := ⟨g, o + k * 2 + 1, none⟩) hg0).trans x1)
        have b1 : (0 : Int) ≤ (k : Int) := by omega
        have b2 : (k : Int) < (r.ids.length : Int) := by omega
        have Y0 := Lib.hid y0
        have Y1 := Lib.hid y1
        have HBM := Lib.hid hbm
        have HG := Lib.hid hg9
        clear x0 x1 y0 y1 hbm hg9 hbx9
        go_wp2
        have hS0 : Below wr.heap.size wr wr.drew := (Below.refl _ _).drew
        refine region_S (fun w' => Below wr.heap.size wr w') 7 (by kernel_rfl) (by kernel_rfl) ?_
        refine take_S 0 rfl (by kernel_rfl) (by kernel_rfl) hS0 (fun w' hS => by go_simp; rfl) ?_
        refine take_S 1 rfl (by kernel_rfl) (by kernel_rfl) hS0 (fun w' hS => by have A3 := (HBX9.out.below hS HBX9.out.lt).c3; go_simp; rfl) ?_
        refine take_S 2 rfl (by kernel_rfl) (by kernel_rfl) hS0 (fun w' hS => by go_simp; rfl) ?_
        refine take_S 3 rfl (by kernel_rfl) (by kernel_rfl) hS0 (fun w' hS => by go_simp; rfl) ?_
        refine take_S 4 rfl (by kernel_rfl) (by kernel_rfl) hS0 (fun w' hS => by have B0 := (hS.cell (p := ⟨g, o + k * 2, none⟩) hgr).trans Y0.out; have B1 := (hS.cell (p := ⟨g, o + k * 2 + 1, none⟩) hgr).trans Y1.out; go_simp; rfl) ?_
        refine take_S 5 rfl (by kernel_rfl) (by kernel_rfl) hS0 (fun w' hS => by have B0 := (HBM.out.below hS HBM.out.lt).c0; have B1 := (HBM.out.below hS HBM.out.lt).c1; go_simp; rfl) ?_
        refine carry_S 6 rfl (by kernel_rfl) (by decide) (by kernel_rfl) (fun K hK => ?_)
        go_simp
        refine (RIsLess_any r.ids[k].1 m.1 r.ids[k].2 m.2 _).mono ?_
        rintro e w4 ⟨rfl, hb4⟩
        have hS4 : Below wr.heap.size wr w4 := hS0.trans hb4
        refine hK _ _ hS4 (forced_S (by kernel_rfl) ?_)
        clear hK K
        try simp only [Act.put, List.getElem_toArray, List.getElem_cons_succ, List.getElem_cons_zero, List.setIfInBounds_toArray, List.set_cons_zero, List.set_cons_succ]
        simp only [List.drop_succ_cons, List.drop_zero]
        have HB4 := Lib.hid (gb_below HG.out hS4)
        have hbm4 := HBM.out.below hS4 HBM.out.lt
        have HBM4 := Lib.hid hbm4
        have er4 := (HBX9.out.below hS4 HBX9.out.lt).c3
        have y0 := (hS4.cell (p := ⟨g, o + k * 2, none⟩) hgr).trans Y0.out
        have y1 := (hS4.cell (p := ⟨g, o + k * 2 + 1, none⟩) hgr).trans Y1.out
        obtain ⟨m0, m1, f0, f1⟩ := hbm4
        cases hcc : lesser r.ids[k] m with
        | true =>
          have hci : lessId r.ids[k].1 m.1 r.ids[k].2 m.2 = true := hcc
          have HN := Lib.hid (hI.out.trans (rep_next_yes hkl hcc))
          rw [hci]
          clear hcc hci hI
          go_wp2
          go_roundg (r.ids.length - (k + 1))
          case measure => omega
          case rel => exact ⟨k + 1, r.ids[k], by go_num, by omega, hkl, rfl, HN, gb_set (gb_set HB4.out _ _) _ _, HBM4.out.set _ _⟩
        | false =>
          have hci : lessId r.ids[k].1 m.1 r.ids[k].2 m.2 = false := hcc
          have HN := Lib.hid (hI.out.trans (rep_next_no hkl hcc))
          rw [hci]
          clear hcc hci hI
          go_wp2
          go_roundg (r.ids.length - (k + 1))
          case measure => omega
          case rel => exact ⟨k + 1, m, by go_num, by omega, hkl, rfl, HN, HB4.out, HBM4.out⟩
      · obtain rfl : k = r.ids.length := by omega
        have hI2 : repOf r.ids = m := by rw [hI.out, List.drop_eq_nil_of_le (Nat.le_refl _)]; rfl
        have HI := Lib.hid hI2
        have hrr := gb_box2 hg9 (by omega) (HBR.out.below HB01.out (by omega))
        have HRR := Lib.hid hrr
        obtain ⟨r0, r1, f0, f1⟩ := hrr
        obtain ⟨m0, m1, _, _⟩ := hbm
        obtain ⟨t0, t1, t2⟩ := HRR.out.rd (.int .u32 (m.1 : Int)) (.int .i64 m.2)
        have HB9 := Lib.hid (below_set2 (gb_toBelow (HB0.out.trans (HB01.out.mono HB0.out.size)) (by omega) (by omega) hg9) (Nat.le_succ _) (.int .u32 (m.1 : Int)) (.int .i64 m.2))
        clear hI hI2 hg9
        go_wp2
        refine bodyPost_ret (v := idV m) (by simp [results, Tryz.results138, go_sem, t0, t1]) rfl ?_
        exact ⟨by rw [HI.out], HB9.out⟩
end Go.Proofs.YtpanoplcamdnkaaGreatDoor

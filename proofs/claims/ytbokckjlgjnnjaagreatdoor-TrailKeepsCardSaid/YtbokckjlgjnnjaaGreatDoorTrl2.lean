/- RefY, RrF, TrR, TrS, TrT, TrL, TrN in one text. Conditions: as each part says. -/
import Derived.Test.YtbokckjlgjnnjaaGreatDoorName
import Derived.Test.YtbokckjlgjnnjaaGreatDoorRcC
import Derived.Test.YtbokckjlgjnnjaaGreatDoorTrl1
import Derived.Deep.AppendLies
import Derived.RangeFuncNested
import Derived.RangeFuncBox
import Derived.Shelf.Abstract
import Derived.WalkKit
import Derived.Test.YtbokckjlgjnnjaaGreatDoorTrV0
import Derived.Shelf.GgSortFunc.RowK
/- Walk of the reference's IsName. No conditions but bounds. -/
namespace Go.Proofs.YtbokckjlgjnnjaaGreatDoor
open Go.RowKit Go.Lib

theorem nameC (c : UInt8) : nameSet.contains c = (decide (97 ≤ c.toNat ∧ c.toNat ≤ 122) || decide (48 ≤ c.toNat ∧ c.toNat ≤ 57) || decide (c.toNat = 46) || decide (c.toNat = 45)) := by
  have h : ∀ i : Fin 256, nameSet.contains (UInt8.ofNat i.1) = (decide (97 ≤ (UInt8.ofNat i.1).toNat ∧ (UInt8.ofNat i.1).toNat ≤ 122) || decide (48 ≤ (UInt8.ofNat i.1).toNat ∧ (UInt8.ofNat i.1).toNat ≤ 57) || decide ((UInt8.ofNat i.1).toNat = 46) || decide ((UInt8.ofNat i.1).toNat = 45)) := by decide +kernel
  have := h ⟨c.toNat, c.toNat_lt⟩
  rwa [show UInt8.ofNat (⟨c.toNat, c.toNat_lt⟩ : Fin 256).1 = c from UInt8.ofNat_toNat] at this
theorem nameC_yes {c : UInt8} (h : (97 ≤ c.toNat ∧ c.toNat ≤ 122) ∨ (48 ≤ c.toNat ∧ c.toNat ≤ 57) ∨ c.toNat = 46 ∨ c.toNat = 45) : nameSet.contains c = true := by
  rw [nameC]
  rcases h with h | h | h | h
  · rw [decide_eq_true h]; rfl
  · rw [decide_eq_true h, Bool.or_true]; rfl
  · rw [decide_eq_true h, Bool.or_true]; rfl
  · rw [decide_eq_true h, Bool.or_true]
theorem nameC_no {c : UInt8} (h1 : ¬ (97 ≤ c.toNat ∧ c.toNat ≤ 122)) (h2 : ¬ (48 ≤ c.toNat ∧ c.toNat ≤ 57)) (h3 : ¬ c.toNat = 46) (h4 : ¬ c.toNat = 45) : nameSet.contains c = false := by
  rw [nameC, decide_eq_false h1, decide_eq_false h2, decide_eq_false h3, decide_eq_false h4]; rfl
theorem all_next {l : List UInt8} {k : Nat} (hk : k < l.length) (h : (l.take k).all (nameSet.contains ·) = true) (h1 : nameSet.contains l[k] = true) : (l.take (k + 1)).all (nameSet.contains ·) = true := by
  rw [List.take_succ_eq_append_getElem hk, List.all_append, h]; simp only [List.all_cons, List.all_nil, Bool.and_true, h1]
theorem all_hit {l : List UInt8} {k : Nat} (hk : k < l.length) (h1 : nameSet.contains l[k] = false) : isName l = false := by
  unfold isName
  have : l.all (nameSet.contains ·) = false := by
    rw [List.all_eq_false]
    exact ⟨l[k], List.getElem_mem hk, by rw [h1]; simp⟩
  rw [this, Bool.and_false]
set_option maxRecDepth 100000 in
set_option maxHeartbeats 1000000 in
theorem RIsName_any (t : ByteArray) (ht : t.size ≤ 9223372036854775807) (w : World) :
    Calls Tryz.prog 41 #[.string t] w fun e w' => e = .returned (.bool (isName t.data.toList)) ∧ w = w' := by
  have HZ := Lib.hid (size_toList t)
  go_enter Tryz.func41, Tryz.ntmps41
  go_wp2
  go_loop [3] (fun vi => ∃ k : Nat, vi = .int .i64 k ∧ k ≤ t.size ∧ Hid ((t.data.toList.take k).all (nameSet.contains ·) = true)) (fun vi => t.size - (RowKit.intOf vi).toNat)
  case atStart => exact ⟨0, rfl, Nat.zero_le _, rfl⟩
  case round =>
    obtain ⟨k, rfl, hk, hall⟩ := hrel
    by_cases hkl : k < t.size
    · have hkl' : k < t.data.toList.length := by rw [← HZ.out]; exact hkl
      have b1 : (0 : Int) ≤ (k : Int) := by omega
      have b2 : (k : Int) < (t.size : Int) := by omega
      have hc256 := t[k].toNat_lt
      have HG : Hid (t.data.toList[k] = t[k]) := Lib.hid rfl
      by_cases h1 : 97 ≤ t[k].toNat
      · have h1i : (97 : Int) ≤ (t[k].toNat : Int) := by omega
        have h48 : (48 : Int) ≤ (t[k].toNat : Int) := by omega
        have h57 : ¬ (t[k].toNat : Int) ≤ 57 := by omega
        by_cases h2 : t[k].toNat ≤ 122
        · have h2i : (t[k].toNat : Int) ≤ (122 : Int) := by omega
          have HN : Hid ((t.data.toList.take (k + 1)).all (nameSet.contains ·) = true) := Lib.hid (all_next hkl' hall.out (by rw [HG.out]; exact nameC_yes (by omega)))
          go_wp2
          go_round
          case rel => exact ⟨k + 1, by go_num, hkl, HN⟩
          case measure => simp [RowKit.intOf]; omega
        · have h2i : ¬ (t[k].toNat : Int) ≤ (122 : Int) := by omega
          have q46 : ((t[k].toNat : Int) != 46) = true := by simp; omega
          have q45 : ((t[k].toNat : Int) != 45) = true := by simp; omega
          have HJ : Hid (isName t.data.toList = false) := Lib.hid (all_hit hkl' (by rw [HG.out]; exact nameC_no (by omega) (by omega) (by omega) (by omega)))
          go_wp2
          go_ret
          exact ⟨by rw [HJ.out]; rfl, rfl⟩
      · have h1i : ¬ (97 : Int) ≤ (t[k].toNat : Int) := by omega
        by_cases h3 : 48 ≤ t[k].toNat
        · have h3i : (48 : Int) ≤ (t[k].toNat : Int) := by omega
          by_cases h4 : t[k].toNat ≤ 57
          · have h4i : (t[k].toNat : Int) ≤ (57 : Int) := by omega
            have HN : Hid ((t.data.toList.take (k + 1)).all (nameSet.contains ·) = true) := Lib.hid (all_next hkl' hall.out (by rw [HG.out]; exact nameC_yes (by omega)))
            go_wp2
            go_round
            case rel => exact ⟨k + 1, by go_num, hkl, HN⟩
            case measure => simp [RowKit.intOf]; omega
          · have h4i : ¬ (t[k].toNat : Int) ≤ (57 : Int) := by omega
            have q46 : ((t[k].toNat : Int) != 46) = true := by simp; omega
            have q45 : ((t[k].toNat : Int) != 45) = true := by simp; omega
            have HJ : Hid (isName t.data.toList = false) := Lib.hid (all_hit hkl' (by rw [HG.out]; exact nameC_no (by omega) (by omega) (by omega) (by omega)))
            go_wp2
            go_ret
            exact ⟨by rw [HJ.out]; rfl, rfl⟩
        · have h3i : ¬ (48 : Int) ≤ (t[k].toNat : Int) := by omega
          by_cases h5 : t[k].toNat = 46
          · have h5i : ((t[k].toNat : Int) != 46) = false := by rw [h5]; rfl
            have HN : Hid ((t.data.toList.take (k + 1)).all (nameSet.contains ·) = true) := Lib.hid (all_next hkl' hall.out (by rw [HG.out]; exact nameC_yes (by omega)))
            go_wp2
            go_round
            case rel => exact ⟨k + 1, by go_num, hkl, HN⟩
            case measure => simp [RowKit.intOf]; omega
          · have h5i : ((t[k].toNat : Int) != 46) = true := by simp; omega
            by_cases h6 : t[k].toNat = 45
            · have h6i : ((t[k].toNat : Int) != 45) = false := by rw [h6]; rfl
              have HN : Hid ((t.data.toList.take (k + 1)).all (nameSet.contains ·) = true) := Lib.hid (all_next hkl' hall.out (by rw [HG.out]; exact nameC_yes (by omega)))
              go_wp2
              go_round
              case rel => exact ⟨k + 1, by go_num, hkl, HN⟩
              case measure => simp [RowKit.intOf]; omega
            · have h6i : ((t[k].toNat : Int) != 45) = true := by simp; omega
              have HJ : Hid (isName t.data.toList = false) := Lib.hid (all_hit hkl' (by rw [HG.out]; exact nameC_no (by omega) (by omega) (by omega) (by omega)))
              go_wp2
              go_ret
              exact ⟨by rw [HJ.out]; rfl, rfl⟩
    · obtain rfl : k = t.size := by omega
      have HA : Hid (t.data.toList.all (nameSet.contains ·) = true) := Lib.hid (by
        have h := hall.out
        rwa [HZ.out, List.take_of_length_le (Nat.le_refl _)] at h)
      by_cases h1 : 1 ≤ t.size
      · have h1i : (1 : Int) ≤ (t.size : Int) := by omega
        by_cases h12 : t.size ≤ 12
        · have h12i : (t.size : Int) ≤ 12 := by omega
          have HJ : Hid (isName t.data.toList = true) := Lib.hid (by unfold isName; rw [HA.out, decide_eq_true (show 1 ≤ t.data.toList.length by rw [← HZ.out]; exact h1), decide_eq_true (show t.data.toList.length ≤ 12 by rw [← HZ.out]; exact h12)]; rfl)
          go_wp2
          go_ret
          exact ⟨by rw [HJ.out]; rfl, rfl⟩
        · have h12i : ¬ (t.size : Int) ≤ 12 := by omega
          have HJ : Hid (isName t.data.toList = false) := Lib.hid (by unfold isName; rw [decide_eq_false (show ¬ t.data.toList.length ≤ 12 by rw [← HZ.out]; exact h12), Bool.and_false, Bool.false_and])
          go_wp2
          go_ret
          exact ⟨by rw [HJ.out]; rfl, rfl⟩
      · have h1i : ¬ (1 : Int) ≤ (t.size : Int) := by omega
        have HJ : Hid (isName t.data.toList = false) := Lib.hid (by unfold isName; rw [decide_eq_false (show ¬ 1 ≤ t.data.toList.length by rw [← HZ.out]; exact h1), Bool.false_and, Bool.false_and])
        go_wp2
        go_ret
        exact ⟨by rw [HJ.out]; rfl, rfl⟩
end Go.Proofs.YtbokckjlgjnnjaaGreatDoor
/- Walks of the reference's Bare, Fine, RecipeFault. No conditions but bounds. -/
namespace Go.Proofs.YtbokckjlgjnnjaaGreatDoor
open Go.RowKit Go.Lib

abbrev fltV (f : Int × Int) : Value := .agg #[.int .i64 f.1, .int .i64 f.2]
theorem RBareF_any (c : Int) (w : World) : Calls Tryz.prog 55 #[.int .i64 c] w fun e w' => e = .returned (fltV (c, -1)) ∧ Below w.heap.size w w' := by
  have hb1 := fun x y => ((Below.refl w.heap.size w).alloc (Nat.le_refl _) (.cells #[x, y] 49))
  go_enter Tryz.func55, Tryz.ntmps55
  go_wp2
  go_returns
  exact ⟨rfl, hb1 _ _⟩
theorem RFine_any (w : World) : Calls Tryz.prog 57 #[] w fun e w' => e = .returned (fltV (0, -1)) ∧ Below w.heap.size w w' := by
  have hb1 := fun x y => ((Below.refl w.heap.size w).alloc (Nat.le_refl _) (.cells #[x, y] 49))
  go_enter Tryz.func57, Tryz.ntmps57
  go_wp2
  go_returns
  exact ⟨rfl, hb1 _ _⟩
def FltPost (r : Rcp) (w : World) (e : Ending) (w' : World) : Prop := e = .returned (fltV (rcpFault r)) ∧ Below w.heap.size w w'
set_option maxRecDepth 100000 in
set_option maxHeartbeats 2000000 in
theorem RRecipeFault_any (v : Value) (r : Rcp) (hb : RcpB r) (w : World) (hv : RcpV w w.heap.size v r) :
    Calls Tryz.prog 30 #[v] w (FltPost r w) := by
  obtain ⟨sl, rfl, hrd⟩ := hv
  obtain ⟨A, c, rfl, hcap, hcells⟩ := hrd.form
  have hb0 : Below w.heap.size w ((w.alloc (.cells #[VT r.name, .int .i64 r.len, .int .u32 (r.print : Int), .slice A r.ids.length c] 36)).alloc (.cells #[.int .i64 0, .int .i64 0] 49)) := ((Below.refl _ w).alloc (Nat.le_refl _) _).alloc (by simp) _
  have hbx : Box4 w.heap.size (VT r.name) (.int .i64 r.len) (.int .u32 (r.print : Int)) (.slice A r.ids.length c) ((w.alloc (.cells #[VT r.name, .int .i64 r.len, .int .u32 (r.print : Int), .slice A r.ids.length c] 36)).alloc (.cells #[.int .i64 0, .int .i64 0] 49)) := (Box4.mk' w _ _ _ _ _).below ((Below.refl (w.alloc _).heap.size (w.alloc _)).alloc (Nat.le_refl _) _) (by simp)
  have hbr : Box2 (w.heap.size + 1) (.int .i64 0) (.int .i64 0) ((w.alloc (.cells #[VT r.name, .int .i64 r.len, .int .u32 (r.print : Int), .slice A r.ids.length c] 36)).alloc (.cells #[.int .i64 0, .int .i64 0] 49)) := by
    have := Box2.mk' (w.alloc (.cells #[VT r.name, .int .i64 r.len, .int .u32 (r.print : Int), .slice A r.ids.length c] 36)) (.int .i64 0) (.int .i64 0) 49
    simpa using this
  have HC := Lib.hid hcells
  have HB0 := Lib.hid hb0
  have HBX := Lib.hid hbx
  have HBR := Lib.hid hbr
  have hnz : (bs r.name).size ≤ 9223372036854775807 := by rw [bs_size]; have := hb.n; omega
  have hlz := hb.c
  have HN2 := Lib.hid (bs_toList r.name)
  have NAME := Lib.hid (fun w => RIsName_any (bs r.name) hnz w)
  obtain ⟨c0, c1, c2, c3, _⟩ := hbx
  have fin : ∀ (w1 : World) (f : Int × Int), Below ((w.alloc (.cells #[VT r.name, .int .i64 r.len, .int .u32 (r.print : Int), .slice A r.ids.length c] 36)).alloc (.cells #[.int .i64 0, .int .i64 0] 49)).heap.size ((w.alloc (.cells #[VT r.name, .int .i64 r.len, .int .u32 (r.print : Int), .slice A r.ids.length c] 36)).alloc (.cells #[.int .i64 0, .int .i64 0] 49)) w1 →
      Box2 (w.heap.size + 1) (.int .i64 0) (.int .i64 0) w1 ∧ Below w.heap.size w ((w1.setCell ⟨w.heap.size + 1, 0, none⟩ (.int .i64 f.1)).setCell ⟨w.heap.size + 1, 1, none⟩ (.int .i64 f.2)) := fun w1 f h1 =>
    ⟨HBR.out.below h1 HBR.out.lt, below_set2 (HB0.out.trans (h1.mono HB0.out.size)) (Nat.le_succ _) _ _⟩
  have FIN := Lib.hid fin
  clear hcells hrd hb0 hbr fin
  cases hN : isName r.name with
  | false =>
    have HF : Hid (rcpFault r = (4, -1)) := Lib.hid (if_pos hN)
    have HNM := Lib.hid hN
    clear hN
    go_enter Tryz.func30, Tryz.ntmps30
    go_wp2_with fail
    refine (NAME.out _).mono ?_
    rintro e w1 ⟨rfl, rfl⟩
    rw [HN2.out, HNM.out]
    go_wp2_with fail
    refine (RBareF_any 4 _).mono ?_
    rintro e w1 ⟨rfl, hb1⟩
    obtain ⟨hbr1, hB9⟩ := FIN.out w1 (4, -1) hb1
    have HBR1 := Lib.hid hbr1
    obtain ⟨r0, r1, f0, f1⟩ := hbr1
    obtain ⟨t0, t1, t2⟩ := HBR1.out.rd (.int .i64 4) (.int .i64 (-1))
    have HB9 := Lib.hid hB9
    clear hb1 hB9
    go_wp2
    refine bodyPost_ret (v := fltV (4, -1)) (by simp [results, Tryz.results30, go_sem, t0, t1]) rfl ?_
    exact ⟨by rw [HF.out], HB9.out⟩
  | true =>
    have HNM := Lib.hid hN
    have hnf : ¬ isName r.name = false := by rw [hN]; simp
    clear hN
    by_cases h1 : r.len < 0
    · have HF : Hid (rcpFault r = (2, -1)) := Lib.hid ((if_neg hnf).trans (if_pos (.inl h1)))
      clear hnf
      go_enter Tryz.func30, Tryz.ntmps30
      go_wp2_with fail
      refine (NAME.out _).mono ?_
      rintro e w1 ⟨rfl, rfl⟩
      rw [HN2.out, HNM.out]
      go_wp2_with fail
      refine (RBareF_any 2 _).mono ?_
      rintro e w1 ⟨rfl, hb1⟩
      obtain ⟨hbr1, hB9⟩ := FIN.out w1 (2, -1) hb1
      have HBR1 := Lib.hid hbr1
      obtain ⟨r0, r1, f0, f1⟩ := hbr1
      obtain ⟨t0, t1, t2⟩ := HBR1.out.rd (.int .i64 2) (.int .i64 (-1))
      have HB9 := Lib.hid hB9
      clear hb1 hB9
      go_wp2
      refine bodyPost_ret (v := fltV (2, -1)) (by simp [results, Tryz.results30, go_sem, t0, t1]) rfl ?_
      exact ⟨by rw [HF.out], HB9.out⟩
    · by_cases h2 : 4000 < r.len
      · have HF : Hid (rcpFault r = (2, -1)) := Lib.hid ((if_neg hnf).trans (if_pos (.inr h2)))
        clear hnf
        go_enter Tryz.func30, Tryz.ntmps30
        go_wp2_with fail
        refine (NAME.out _).mono ?_
        rintro e w1 ⟨rfl, rfl⟩
        rw [HN2.out, HNM.out]
        go_wp2_with fail
        refine (RBareF_any 2 _).mono ?_
        rintro e w1 ⟨rfl, hb1⟩
        obtain ⟨hbr1, hB9⟩ := FIN.out w1 (2, -1) hb1
        have HBR1 := Lib.hid hbr1
        obtain ⟨r0, r1, f0, f1⟩ := hbr1
        obtain ⟨t0, t1, t2⟩ := HBR1.out.rd (.int .i64 2) (.int .i64 (-1))
        have HB9 := Lib.hid hB9
        clear hb1 hB9
        go_wp2
        refine bodyPost_ret (v := fltV (2, -1)) (by simp [results, Tryz.results30, go_sem, t0, t1]) rfl ?_
        exact ⟨by rw [HF.out], HB9.out⟩
      · by_cases h3 : 250 < r.ids.length
        · have h3i : 250 < (r.ids.length : Int) := by omega
          have HF : Hid (rcpFault r = (7, -1)) := Lib.hid ((if_neg hnf).trans ((if_neg (by omega)).trans (if_pos h3)))
          clear hnf h3
          go_enter Tryz.func30, Tryz.ntmps30
          go_wp2_with fail
          refine (NAME.out _).mono ?_
          rintro e w1 ⟨rfl, rfl⟩
          rw [HN2.out, HNM.out]
          go_wp2_with fail
          refine (RBareF_any 7 _).mono ?_
          rintro e w1 ⟨rfl, hb1⟩
          obtain ⟨hbr1, hB9⟩ := FIN.out w1 (7, -1) hb1
          have HBR1 := Lib.hid hbr1
          obtain ⟨r0, r1, f0, f1⟩ := hbr1
          obtain ⟨t0, t1, t2⟩ := HBR1.out.rd (.int .i64 7) (.int .i64 (-1))
          have HB9 := Lib.hid hB9
          clear hb1 hB9
          go_wp2
          refine bodyPost_ret (v := fltV (7, -1)) (by simp [results, Tryz.results30, go_sem, t0, t1]) rfl ?_
          exact ⟨by rw [HF.out], HB9.out⟩
        · have h3i : ¬ 250 < (r.ids.length : Int) := by omega
          have HF0 : Hid (rcpFault r = idsFault r.len 0 0 r.ids) := Lib.hid ((if_neg hnf).trans ((if_neg (by omega)).trans (if_neg h3)))
          have HD : Hid (r.ids.drop r.ids.length = []) := Lib.hid (List.drop_eq_nil_of_le (Nat.le_refl _))
          clear hnf
          go_enter Tryz.func30, Tryz.ntmps30
          go_wp2_with fail
          refine (NAME.out _).mono ?_
          rintro e w1 ⟨rfl, rfl⟩
          rw [HN2.out, HNM.out]
          go_wp2
          generalize (w.alloc (.cells #[VT r.name, .int .i64 r.len, .int .u32 (r.print : Int), .slice A r.ids.length c] 36)).alloc (.cells #[.int .i64 0, .int .i64 0] 49) = w0 at *
          go_loopg [4, 5] r.ids.length (fun gh va vi wr => w0 = wr ∧ ∃ (k : Nat) (n : Int), vi = .int .i64 k ∧ va = .int .i64 n ∧ k ≤ r.ids.length ∧ gh = r.ids.length - k ∧ 0 ≤ n ∧ n ≤ 64 * (k : Int) ∧ Hid (idsFault r.len 0 0 r.ids = idsFault r.len k n (r.ids.drop k)))
          case atStart => exact ⟨rfl, 0, 0, rfl, rfl, Nat.zero_le _, rfl, by omega, by omega, Lib.hid rfl⟩
          case round =>
            obtain ⟨rfl, k, n, rfl, rfl, hk, hgm, hn0, hn1, hI⟩ := hrel
            by_cases hkl : k < r.ids.length
            · obtain ⟨g, o, rfl, hg, hx⟩ := HC.out (by omega)
              obtain ⟨x0, x1⟩ := hx k hkl
              have y1 := (HB0.out.cell (p := ⟨g, o + k * 2 + 1, none⟩) hg).trans x1
              have b1 : (0 : Int) ≤ (k : Int) := by omega
              have b2 : (k : Int) < (r.ids.length : Int) := by omega
              clear hx x0 x1
              by_cases hbad : r.ids[k].2 < 1 ∨ 64 < r.ids[k].2
              · have HF : Hid (rcpFault r = (3, (k : Int))) := Lib.hid (HF0.out.trans (hI.out.trans (fault_hit hkl hbad)))
                obtain ⟨r0, r1, f0, f1⟩ := HBR.out
                obtain ⟨t0, t1, t2⟩ := HBR.out.rd (.int .i64 3) (.int .i64 (k : Int))
                have HB9 := Lib.hid (below_set2 HB0.out (Nat.le_succ _) (.int .i64 3) (.int .i64 (k : Int)))
                clear hI
                rcases hbad with h5 | h5
                · go_wp2
                  refine bodyPost_ret (v := fltV (3, (k : Int))) (by simp [results, Tryz.results30, go_sem, t0, t1]) rfl ?_
                  exact ⟨by rw [HF.out], HB9.out⟩
                · have h6 : ¬ r.ids[k].2 < 1 := by omega
                  go_wp2
                  refine bodyPost_ret (v := fltV (3, (k : Int))) (by simp [results, Tryz.results30, go_sem, t0, t1]) rfl ?_
                  exact ⟨by rw [HF.out], HB9.out⟩
              · have HN := Lib.hid (hI.out.trans (fault_next hkl hbad))
                have h5 : ¬ r.ids[k].2 < 1 := by omega
                have h6 : ¬ 64 < r.ids[k].2 := by omega
                clear hI hbad
                go_wp2
                go_roundg (r.ids.length - (k + 1))
                case measure => omega
                case rel => exact ⟨rfl, k + 1, n + r.ids[k].2, by go_num, by go_num, hkl, rfl, by omega, by omega, HN⟩
            · obtain rfl : k = r.ids.length := by omega
              have hI2 := HF0.out.trans hI.out
              rw [HD.out] at hI2
              by_cases hn : n = r.len
              · have hni : (n != r.len) = false := by rw [hn]; simp
                have HF : Hid (rcpFault r = (0, -1)) := Lib.hid (hI2.trans (if_pos hn))
                clear hI hI2 hn
                go_wp2_with fail
                refine (RFine_any _).mono ?_
                rintro e w1 ⟨rfl, hb1⟩
                obtain ⟨hbr1, hB9⟩ := FIN.out w1 (0, -1) hb1
                have HBR1 := Lib.hid hbr1
                obtain ⟨r0, r1, f0, f1⟩ := hbr1
                obtain ⟨t0, t1, t2⟩ := HBR1.out.rd (.int .i64 0) (.int .i64 (-1))
                have HB9 := Lib.hid hB9
                clear hb1 hB9
                go_wp2
                refine bodyPost_ret (v := fltV (0, -1)) (by simp [results, Tryz.results30, go_sem, t0, t1]) rfl ?_
                exact ⟨by rw [HF.out], HB9.out⟩
              · have hni : (n != r.len) = true := by simpa using hn
                have HF : Hid (rcpFault r = (9, -1)) := Lib.hid (hI2.trans (if_neg hn))
                clear hI hI2 hn
                go_wp2_with fail
                refine (RBareF_any 9 _).mono ?_
                rintro e w1 ⟨rfl, hb1⟩
                obtain ⟨hbr1, hB9⟩ := FIN.out w1 (9, -1) hb1
                have HBR1 := Lib.hid hbr1
                obtain ⟨r0, r1, f0, f1⟩ := hbr1
                obtain ⟨t0, t1, t2⟩ := HBR1.out.rd (.int .i64 9) (.int .i64 (-1))
                have HB9 := Lib.hid hB9
                clear hb1 hB9
                go_wp2
                refine bodyPost_ret (v := fltV (9, -1)) (by simp [results, Tryz.results30, go_sem, t0, t1]) rfl ?_
                exact ⟨by rw [HF.out], HB9.out⟩
end Go.Proofs.YtbokckjlgjnnjaaGreatDoor
/- Trails: walks of the reference's entryError and TrailFault. No conditions but bounds. -/
namespace Go.Proofs.YtbokckjlgjnnjaaGreatDoor
open Go.RowKit Go.Lib

theorem rcpFault_rng (r : Rcp) : 0 ≤ (rcpFault r).1 ∧ (rcpFault r).1 ≤ 12 := by
  have ids : ∀ (L : IdL) (len : Int) (i : Nat) (n : Int), 0 ≤ (idsFault len i n L).1 ∧ (idsFault len i n L).1 ≤ 12 := fun L => by
    induction L with
    | nil => intro len i n; unfold idsFault; split <;> decide
    | cons x r ih => intro len i n; unfold idsFault; split; · exact ⟨by simp, by simp⟩
                     exact ih _ _ _
  unfold rcpFault
  split; · exact ⟨by decide, by decide⟩
  split; · exact ⟨by decide, by decide⟩
  split; · exact ⟨by decide, by decide⟩
  exact ids _ _ _ _
theorem entErr_rng (e : Ent) (was : Int) : 0 ≤ entErr e was ∧ entErr e was ≤ 12 := by
  unfold entErr
  split; · exact ⟨by decide, by decide⟩
  split; · exact ⟨by decide, by decide⟩
  exact rcpFault_rng _
theorem Tr.field0 (x y : Int) (w : World) : (Instr.field 49 (.agg #[.int .i64 x, .int .i64 y]) 0).run Tryz.prog w = .ok (.int .i64 x) w := by kernel_rfl
set_option maxRecDepth 100000 in
set_option maxHeartbeats 1000000 in
theorem REntErr_any (e : Ent) (sl : Value) (was : Int) (hb : RcpB e.r) (w : World) (hv : RdI w w.heap.size sl e.r.ids) :
    Calls Tryz.prog 56 #[entV (e, sl), .int .i64 was] w fun x w' => x = .returned (.int .i64 (entErr e was)) ∧ Below w.heap.size w w' := by
  have hb0 : Below w.heap.size w (w.alloc (.cells #[.int .i64 e.day, VT e.r.name, .int .i64 e.r.len, .int .u32 (e.r.print : Int), sl] 42)) := (Below.refl _ w).alloc (Nat.le_refl _) _
  have hrec : RcpV w w.heap.size (rcpAgg e.r sl) e.r := ⟨sl, rfl, hv⟩
  have RF := Lib.hid (RRecipeFault_any _ e.r hb _ (hrec.below hb0))
  have HB0 := Lib.hid hb0
  obtain ⟨A, c, rfl⟩ := hv.slice
  clear hb0 hrec hv
  by_cases h1 : e.day < 0
  · have HE := Lib.hid (entErr_a (was := was) h1)
    go_enter Tryz.func56, Tryz.ntmps56
    go_wp2
    go_ret
    exact ⟨by rw [HE.out]; rfl, HB0.out⟩
  · by_cases h2 : e.day < was
    · have HE := Lib.hid (entErr_b h1 h2)
      go_enter Tryz.func56, Tryz.ntmps56
      go_wp2
      go_ret
      exact ⟨by rw [HE.out]; rfl, HB0.out⟩
    · have HE := Lib.hid (entErr_c h1 h2)
      go_enter Tryz.func56, Tryz.ntmps56
      go_wp2_with fail
      refine RF.out.mono ?_
      rintro x w1 ⟨rfl, hb1⟩
      unfold fltV
      have hfd := Tr.field0
      go_wp2
      go_ret
      exact ⟨by rw [HE.out]; rfl, HB0.out.trans (hb1.mono HB0.out.size)⟩
def TFltPost (l : EntL) (w : World) (e : Ending) (w' : World) : Prop := e = .returned (fltV (trailFault l)) ∧ Below w.heap.size w w'
set_option maxRecDepth 100000 in
set_option maxHeartbeats 1000000 in
theorem RTFault_any (v : Value) (l : EntL) (hb : ∀ e ∈ l, RcpB e.r) (hl : l.length ≤ 1000000) (w : World) (hv : RdT w w.heap.size v l) :
    Calls Tryz.prog 18 #[v] w (TFltPost l w) := by
  have hb0 : Below w.heap.size w (w.alloc (.cells #[.int .i64 0, .int .i64 0] 49)) := (Below.refl _ w).alloc (Nat.le_refl _) _
  have hbx : Box2 w.heap.size (.int .i64 0) (.int .i64 0) (w.alloc (.cells #[.int .i64 0, .int .i64 0] 49)) := Box2.mk' _ _ _ _
  have HB0 := Lib.hid hb0
  have HBX := Lib.hid hbx
  obtain ⟨A, c, rfl, hlc, S, hS, hx⟩ := hv.form
  have HX := Lib.hid hx
  have HS := Lib.hid hS
  have hlt := hbx.lt
  clear hv hb0 hbx hx hS
  by_cases h1 : 40 < l.length
  · have h1i : 40 < (l.length : Int) := by omega
    have HE : Hid (trailFault l = (7, -1)) := Lib.hid (if_pos h1)
    clear h1
    go_enter Tryz.func18, Tryz.ntmps18
    go_wp2_with fail
    refine (RBareF_any 7 _).mono ?_
    rintro e w1 ⟨rfl, hb1⟩
    obtain ⟨x0, x1, g0, g1⟩ := HBX.out.below hb1 HBX.out.lt
    have HB1 := Lib.hid (HB0.out.trans (hb1.mono HB0.out.size))
    have HX1 := Lib.hid (HBX.out.below hb1 HBX.out.lt)
    obtain ⟨t0, t1, t2⟩ := HX1.out.rd (.int .i64 7) (.int .i64 (-1))
    clear hb1
    go_wp2
    refine bodyPost_ret (v := fltV (7, -1)) (by simp [results, Tryz.results18, go_sem, t0, t1]) rfl ?_
    exact ⟨by rw [HE.out], (HB1.out.setCell (p := ⟨w.heap.size, 0, none⟩) (Nat.le_refl _) _).setCell (p := ⟨w.heap.size, 1, none⟩) (Nat.le_refl _) _⟩
  · have h1i : ¬ 40 < (l.length : Int) := by omega
    have HE : Hid (trailFault l = trailFrom 0 (wasAt l 0) (l.drop 0)) := Lib.hid (if_neg h1)
    clear h1
    go_enter Tryz.func18, Tryz.ntmps18
    go_wp2
    generalize hw0 : w.alloc (.cells #[.int .i64 0, .int .i64 0] 49) = w0 at *
    clear hw0
    go_loopg [3, 4] l.length (fun gh va vi wr => ∃ k : Nat, vi = .int .i64 k ∧ va = .int .i64 (wasAt l k) ∧ k ≤ l.length ∧ gh = l.length - k ∧ Hid (trailFault l = trailFrom k (wasAt l k) (l.drop k)) ∧ Below w0.heap.size w0 wr)
    case atStart => exact ⟨0, rfl, rfl, Nat.zero_le _, rfl, HE, Below.refl _ _⟩
    case round =>
      obtain ⟨k, rfl, rfl, hk, hgm, hI, hB⟩ := hrel
      have HB := Lib.hid (HB0.out.trans (hB.mono HB0.out.size))
      have HBX1 := Lib.hid (HBX.out.below hB HBX.out.lt)
      by_cases hkl : k < l.length
      · have b1 : (0 : Int) ≤ (k : Int) := by omega
        have b2 : (k : Int) < (l.length : Int) := by omega
        obtain ⟨g, o, rfl, hg, hcell⟩ := HX.out (by omega)
        obtain ⟨c0, c1, c2, c3, c4⟩ := hcell k hkl
        have d0 := (HB.out.cell (p := ⟨g, o + k * 5, none⟩) hg).trans c0
        have d1 := (HB.out.cell (p := ⟨g, o + k * 5 + 1, none⟩) hg).trans c1
        have d2 := (HB.out.cell (p := ⟨g, o + k * 5 + 2, none⟩) hg).trans c2
        have d3 := (HB.out.cell (p := ⟨g, o + k * 5 + 3, none⟩) hg).trans c3
        have d4 := (HB.out.cell (p := ⟨g, o + k * 5 + 4, none⟩) hg).trans c4
        have RE := Lib.hid (REntErr_any l[k] (S k) (wasAt l k) (hb _ (List.getElem_mem hkl)) wr (((HS.out k hkl).keep HB.out (Nat.le_refl _)).more HB.out.size))
        have HWS := Lib.hid (wasAt_succ hkl)
        have her := entErr_rng l[k] (wasAt l k)
        have HC0 := Lib.hid c0
        clear hcell c0 c1 c2 c3 c4
        go_wp2_with fail
        refine RE.out.mono ?_
        rintro e w1 ⟨rfl, hb1⟩
        have HB1 := Lib.hid (HB.out.trans (hb1.mono HB.out.size))
        have HBW := Lib.hid (hB.trans (hb1.mono hB.size))
        obtain ⟨x0, x1, g0, g1⟩ := HBX1.out.below hb1 HBX1.out.lt
        have e0 := (HB1.out.cell (p := ⟨g, o + k * 5, none⟩) hg).trans HC0.out
        by_cases he : entErr l[k] (wasAt l k) = 0
        · have he' : ¬ 0 < entErr l[k] (wasAt l k) := by omega
          have hI' : Hid (trailFault l = trailFrom (k + 1) (wasAt l (k + 1)) (l.drop (k + 1))) := Lib.hid (hI.out.trans (trail_next hkl he))
          clear he hI hb1 hB
          go_wp2
          go_roundg (l.length - (k + 1))
          case measure => omega
          case rel => exact ⟨k + 1, by go_num, by rw [HWS.out], hkl, rfl, hI', HBW.out⟩
        · have he' : 0 < entErr l[k] (wasAt l k) := by omega
          have hI' : Hid (trailFault l = (entErr l[k] (wasAt l k), (k : Int))) := Lib.hid (hI.out.trans (trail_hit hkl he))
          obtain ⟨t0, t1, t2⟩ := (HBX1.out.below hb1 HBX1.out.lt).rd (.int .i64 (entErr l[k] (wasAt l k))) (.int .i64 (k : Int))
          clear he hI hb1 hB
          go_wp2
          refine bodyPost_ret (v := fltV (entErr l[k] (wasAt l k), (k : Int))) (by simp [results, Tryz.results18, go_sem, t0, t1]) rfl ?_
          exact ⟨by rw [hI'.out], (HB1.out.setCell (p := ⟨w.heap.size, 0, none⟩) (Nat.le_refl _) _).setCell (p := ⟨w.heap.size, 1, none⟩) (Nat.le_refl _) _⟩
      · obtain rfl : k = l.length := by omega
        have hI' : Hid (trailFault l = (0, -1)) := Lib.hid (hI.out.trans (trail_end l))
        clear hB hI hkl
        go_wp2_with fail
        refine (RFine_any _).mono ?_
        rintro e w1 ⟨rfl, hb1⟩
        obtain ⟨x0, x1, g0, g1⟩ := HBX1.out.below hb1 HBX1.out.lt
        have HB1 := Lib.hid (HB.out.trans (hb1.mono HB.out.size))
        obtain ⟨t0, t1, t2⟩ := (HBX1.out.below hb1 HBX1.out.lt).rd (.int .i64 0) (.int .i64 (-1))
        clear hb1
        go_wp2
        refine bodyPost_ret (v := fltV (0, -1)) (by simp [results, Tryz.results18, go_sem, t0, t1]) rfl ?_
        exact ⟨by rw [hI'.out], (HB1.out.setCell (p := ⟨w.heap.size, 0, none⟩) (Nat.le_refl _) _).setCell (p := ⟨w.heap.size, 1, none⟩) (Nat.le_refl _) _⟩
end Go.Proofs.YtbokckjlgjnnjaaGreatDoor
/- Trails: walk of the reference's AddEntry. No conditions but bounds. -/
namespace Go.Proofs.YtbokckjlgjnnjaaGreatDoor
open Go.RowKit Go.Lib

theorem trailFault_rng (l : EntL) : 0 ≤ (trailFault l).1 := by
  have go : ∀ (l : EntL) (i : Nat) (was : Int), 0 ≤ (trailFrom i was l).1 := fun l => by
    induction l with
    | nil => intro i was; exact Int.le_refl 0
    | cons e r ih =>
      intro i was
      unfold trailFrom
      split
      · exact (entErr_rng e was).1
      · exact ih _ _
  unfold trailFault
  split
  · decide
  · exact go _ _ _
theorem gb_al {w w1 : World} {r : Option Nat} (h : w.grownBy w1 r) (o : Obj) : w.grownBy (w1.alloc o) r := h.trans (World.grownBy_alloc w1 o r)
theorem gb_dr (w : World) (r : Option Nat) : w.grownBy w.drew r := ⟨rfl, rfl, rfl, Nat.le_refl _, fun _ _ _ => rfl⟩
theorem gb_rf (w : World) (r : Option Nat) : w.grownBy w r := ⟨rfl, rfl, rfl, Nat.le_refl _, fun _ _ _ => rfl⟩
theorem gb_drw {w w1 : World} {r : Option Nat} (h : w.grownBy w1 r) : w.grownBy w1.drew r := h.trans (gb_dr w1 r)
theorem NewE.dr {w : World} {ad : Addr} {x : EntX} (h : NewE w ad x) : NewE w.drew ad x := h
theorem Box2.dr {b : Nat} {x y : Value} {w : World} (h : Box2 b x y w) : Box2 b x y w.drew := ⟨h.c0, h.c1, h.f0, h.f1⟩
theorem own_gbI {w w' : World} {base n size d : Nat} {e : TypeId} {v : Value} {xs : List Value} (h : w.ownsRow base e size v n xs) (hg : w.grownBy w' (some d)) (hd : d < base) : w'.ownsRow base e size v n xs := by
  refine ⟨h.1, ?_⟩
  rcases h.2 with h | ⟨g, cap, cur, hv, hgb, hh, h3⟩
  · exact .inl h
  · exact .inr ⟨g, cap, cur, hv, hgb, (hg.block g (Array.getElem?_eq_some_iff.1 hh).1 (fun e => by injection e with e; omega)).trans hh, h3⟩
theorem NewE.setFar {w : World} {b o d j : Nat} {x : EntX} {v : Value} (h : NewE w ⟨b, o, none⟩ x) (hd : b ≠ d) : NewE (w.setCell ⟨d, j, none⟩ v) ⟨b, o, none⟩ x := fun i u hi => by
  have := h i u hi
  rw [add_eqM] at this ⊢
  exact (World.cell?_setCell_other _ _ _ _ (by intro e; injection e with e; exact hd e.symm)).trans this
theorem gb_box2r {w w' : World} {d : Nat} {x y : Value} {r : Option Nat} (h : w.grownBy w' r) (hne : some d ≠ r) (hx : Box2 d x y w) : Box2 d x y w' :=
  ⟨(h.cell_far ⟨d, 0, none⟩ hx.lt hne).trans hx.c0, (h.cell_far ⟨d, 1, none⟩ hx.lt hne).trans hx.c1, (h.frozen_far ⟨d, 0, none⟩ hx.lt hne).trans hx.f0, (h.frozen_far ⟨d, 1, none⟩ hx.lt hne).trans hx.f1⟩
theorem RdC.keepG {w w' : World} {B size m d : Nat} {v : Value} {xs : List Value} (h : RdC w B size v m xs) (hg : w.grownBy w' (some d)) (hB : B ≤ w.heap.size) (hf : v.ownBlock ≠ some d) : RdC w' B size v m xs := by
  obtain ⟨A, c, hv, hl, hc, hx⟩ := h
  refine ⟨A, c, hv, hl, hc, fun h0 => ?_⟩
  obtain ⟨g, o, hA, hgB, hcell⟩ := hx h0
  refine ⟨g, o, hA, hgB, fun k u hu => (hg.cell_far ⟨g, o + k, none⟩ (Nat.lt_of_lt_of_le hgB hB) (fun e => ?_)).trans (hcell k u hu)⟩
  exact hf (by rw [hv, hA]; exact e)
theorem RdE.keepG {w w' : World} {B d : Nat} {v : Value} {E : EntXL} (h : RdE w B v E) (hg : w.grownBy w' (some d)) (hB : B ≤ w.heap.size) (hf : v.ownBlock ≠ some d) (hx : ∀ x ∈ E, FarI x.2 x.1.r.ids d) : RdE w' B v E :=
  ⟨h.1.keepG hg hB hf, fun x hm => (h.2 x hm).keepG hg hB (fun g e => by injection e with e; subst e; exact hx x hm)⟩
theorem RdI.farI {w : World} {B d : Nat} {v : Value} {L : IdL} (h : RdI w B v L) (hd : B ≤ d) : FarI v L d := fun h0 e => by have := h.lt h0 e; omega
/-- behind the append: what was read and one entry more -/
theorem radd_fin {w5 W w7 : World} {B base d : Nat} {T : TypeId} {V5 V7 : Value} {l : EntL} {E : EntXL} {y : EntX} (hE : E.map (·.1) = l) (ho5 : w5.ownsRow base T 5 V5 l.length (entRow E)) (hd : d < base) (hB : B ≤ d) (hbw : base ≤ w5.heap.size)
    (h5 : ∀ x ∈ E, RdI w5 B x.2 x.1.r.ids) (hy : RdI w5 B y.2 y.1.r.ids) (FR : w5.grownBy W (some d)) (hown7 : w7.ownsRow base T 5 V7 (l.length + 1) (entRow E ++ entCells y)) (hg7 : W.grownBy w7 V5.ownBlock)
    (w8 : World) (h8 : w7.grownBy w8 (some d)) : RdT w8 w8.heap.size V7 (l ++ [y.1]) := by
  have hl : E.length = l.length := by rw [← hE, List.length_map]
  have ids : ∀ z ∈ E ++ [y], RdI w7 B z.2 z.1.r.ids := fun z hz => by
    have h1 : RdI w5 B z.2 z.1.r.ids := by
      rcases List.mem_append.1 hz with h | h
      · exact h5 z h
      · rw [List.mem_singleton.1 h]; exact hy
    have h2 : RdI W B z.2 z.1.r.ids := h1.keepG FR (by omega) (fun g e => by injection e with e; subst e; exact h1.farI hB)
    exact h2.keepG hg7 (by have := FR.size; omega) (fun g e => h2.farI (by have := own_ge ho5 e; omega))
  have hr : RdE w7 w7.heap.size V7 (E ++ [y]) := ⟨by rw [List.length_append, entRow_snoc, List.length_singleton, hl]; exact own_rdC hown7, fun z hz => (ids z hz).more (by have := FR.size; have := hg7.size; omega)⟩
  refine ⟨E ++ [y], by rw [List.map_append, hE]; rfl, RdE.more (hr.keepG h8 (Nat.le_refl _) (fun e => by have := own_ge hown7 e; omega) (fun z hz => (ids z hz).farI hB)) h8.size⟩
theorem radd_bel {w w5 W w7 : World} {base d : Nat} {T : TypeId} {V5 : Value} {n : Nat} {xs : List Value} (HB5 : Below w.heap.size w w5) (ho5 : w5.ownsRow base T 5 V5 n xs) (hd : d < base) (hw : w.heap.size ≤ d) (FR : w5.grownBy W (some d)) (hg7 : W.grownBy w7 V5.ownBlock)
    (w8 : World) (h8 : w7.grownBy w8 (some d)) : Below w.heap.size w w8 := by
  have a1 := HB5.grown FR HB5.size (fun j hj => by injection hj with hj; omega)
  have a2 := a1.grown hg7 a1.size (fun j hj => by have := own_ge ho5 hj; omega)
  exact a2.grown h8 a2.size (fun j hj => by injection hj with hj; omega)
theorem radd_box {w5 W w7 : World} {base b : Nat} {T : TypeId} {V5 p q : Value} {n : Nat} {xs : List Value} {r : Option Nat} (hB : Box2 b p q w5) (ho5 : w5.ownsRow base T 5 V5 n xs) (hb : b < base) (hr : some b ≠ r) (FR : w5.grownBy W r) (hg7 : W.grownBy w7 V5.ownBlock) : Box2 b p q w7 :=
  gb_box2r hg7 (own_far ho5 hb) (gb_box2r FR hr hB)
theorem radd_box0 {w5 W w7 : World} {base b : Nat} {T : TypeId} {V5 p q : Value} {n : Nat} {xs : List Value} (hB : Box2 b p q W) (ho5 : w5.ownsRow base T 5 V5 n xs) (hb : b < base) (hg7 : W.grownBy w7 V5.ownBlock) : Box2 b p q w7 :=
  gb_box2r hg7 (own_far ho5 hb) hB
def RAddPost (l : EntL) (x : Ent) (w : World) (e : Ending) (w' : World) : Prop :=
  ∃ v, e = .returned (.tuple #[v, fltV (addRes l x).1]) ∧ RdT w' w'.heap.size v (addRes l x).2 ∧ Below w.heap.size w w'
theorem info_rent : (Tryz.prog.info? 42).map (fun i => (i.zero, i.size, i.bytes)) = some (some (.agg #[.int .i64 0, .string ByteArray.empty, .int .i64 0, .int .u32 0, .slice none 0 0]), 5, 64) := by kernel_rfl
set_option maxRecDepth 100000 in
set_option maxHeartbeats 4000000 in
theorem RAddE_any (v : Value) (l : EntL) (x : Ent) (sl : Value) (hb : ∀ e ∈ l, RcpB e.r) (hbx : RcpB x.r) (hl : l.length ≤ 1000000) (w : World) (hv : RdT w w.heap.size v l) (hsl : RdI w w.heap.size sl x.r.ids) :
    Calls Tryz.prog 21 #[v, entV (x, sl)] w (RAddPost l x w) := by
  obtain ⟨i0, hi, hz0, hz1, hz2⟩ := info_parts info_rent
  obtain ⟨A, c, hvA, hlc, S, hS, hx⟩ := hv.form
  subst hvA
  obtain ⟨As, cs, hsA⟩ := hsl.slice
  subst hsA
  have hb0 : Below w.heap.size w ((w.alloc (.cells #[.int .i64 x.day, VT x.r.name, .int .i64 x.r.len, .int .u32 (x.r.print : Int), .slice As x.r.ids.length cs] 42)).alloc (.cells #[.int .i64 0, .int .i64 0] 49)) := ((Below.refl _ w).alloc (Nat.le_refl _) _).alloc (by simp) _
  have HX0 : Hid (Box5 w.heap.size (.int .i64 x.day) (VT x.r.name) (.int .i64 x.r.len) (.int .u32 (x.r.print : Int)) (.slice As x.r.ids.length cs) ((w.alloc (.cells #[.int .i64 x.day, VT x.r.name, .int .i64 x.r.len, .int .u32 (x.r.print : Int), .slice As x.r.ids.length cs] 42)).alloc (.cells #[.int .i64 0, .int .i64 0] 49))) := Lib.hid ((Box5.mk' w _ _ _ _ _ 42).below ((Below.refl (w.alloc _).heap.size (w.alloc _)).alloc (Nat.le_refl _) _) (by simp))
  have HZ0 : Hid (Box2 (w.heap.size + 1) (.int .i64 0) (.int .i64 0) ((w.alloc (.cells #[.int .i64 x.day, VT x.r.name, .int .i64 x.r.len, .int .u32 (x.r.print : Int), .slice As x.r.ids.length cs] 42)).alloc (.cells #[.int .i64 0, .int .i64 0] 49))) := Lib.hid (by
    have := Box2.mk' (w.alloc (.cells #[.int .i64 x.day, VT x.r.name, .int .i64 x.r.len, .int .u32 (x.r.print : Int), .slice As x.r.ids.length cs] 42)) (.int .i64 0) (.int .i64 0) 49
    simpa using this)
  have HB0 := Lib.hid hb0
  have HX := Lib.hid hx
  have HV := Lib.hid (fun w' (h : Below w.heap.size w w') => (RdT.more (hv.keep h (Nat.le_refl _)) h.size : RdT w' w'.heap.size _ l))
  have HSL := Lib.hid (fun w' (h : Below w.heap.size w w') => ((hsl.keep h (Nat.le_refl _)).more h.size : RdI w' w'.heap.size _ x.r.ids))
  have HVB := Lib.hid (fun w' (h : Below w.heap.size w w') => (hv.keep h (Nat.le_refl _) : RdT w' w.heap.size _ l))
  have HSB := Lib.hid (fun w' (h : Below w.heap.size w w') => (hsl.keep h (Nat.le_refl _) : RdI w' w.heap.size _ x.r.ids))
  have TF := Lib.hid (RTFault_any _ l hb hl _ (HV.out _ hb0))
  have hrg := trailFault_rng l
  have hlt := HZ0.out.lt
  clear hv hsl hb0 hS hx
  go_enter Tryz.func21, Tryz.ntmps21
  go_wp2_with fail
  generalize hw0 : (w.alloc (.cells #[.int .i64 x.day, VT x.r.name, .int .i64 x.r.len, .int .u32 (x.r.print : Int), .slice As x.r.ids.length cs] 42)).alloc (.cells #[.int .i64 0, .int .i64 0] 49) = w0 at *
  clear hw0
  refine TF.out.mono ?_
  rintro e w1 ⟨rfl, hb1⟩
  unfold fltV
  generalize hF : trailFault l = F at *
  have ha2 : Below w1.heap.size w1 (w1.alloc (.cells #[.int .i64 F.1, .int .i64 F.2] 49)) := (Below.refl _ w1).alloc (Nat.le_refl _) _
  have HB1 := Lib.hid (HB0.out.trans (hb1.mono HB0.out.size))
  have HB2 := Lib.hid (HB1.out.trans (ha2.mono HB1.out.size))
  have HX2 := Lib.hid ((HX0.out.below hb1 HX0.out.lt).below ha2 (Nat.lt_of_lt_of_le HX0.out.lt hb1.size))
  have HZ2 := Lib.hid ((HZ0.out.below hb1 HZ0.out.lt).below ha2 (Nat.lt_of_lt_of_le HZ0.out.lt hb1.size))
  have HF2 := Lib.hid (Box2.mk' w1 (.int .i64 F.1) (.int .i64 F.2) 49)
  have hlt1 : w.heap.size + 1 < w1.heap.size := Nat.lt_of_lt_of_le HZ0.out.lt hb1.size
  clear hb1 ha2 TF hlt
  obtain ⟨u0, u1, u2, u3⟩ := HF2.out
  obtain ⟨z0, z1, z2, z3⟩ := HZ2.out
  by_cases h0 : F.1 = 0
  · have HFF := Lib.hid hF
    have hF2 : F = (0, -1) := by rw [← hF]; exact trailFault_two (by rw [hF]; exact h0)
    subst hF2
    simp only at HF2 HB2 HX2 HZ2 u0 u1 u2 u3 z0 z1 z2 z3
    clear hF hrg h0
    by_cases h40 : 40 ≤ l.length
    · have h40i : 40 ≤ (l.length : Int) := by omega
      have HE := Lib.hid (add_full (x := x) (by rw [HFF.out]) h40)
      clear h40
      go_wp2_with fail
      generalize w1.alloc (.cells #[.int .i64 0, .int .i64 (-1)] 49) = w2 at *
      generalize w1.heap.size = fb at *
      refine (RBareF_any 7 _).mono ?_
      rintro e w3 ⟨rfl, hb3⟩
      have HB3 := Lib.hid (HB2.out.trans (hb3.mono HB2.out.size))
      have HZ3 := Lib.hid (HZ2.out.below hb3 HZ2.out.lt)
      clear hb3 u0 u1 u2 u3 z0 z1 z2 z3
      obtain ⟨z0, z1, z2, z3⟩ := HZ3.out
      obtain ⟨t0, t1, t2⟩ := HZ3.out.rd (.int .i64 7) (.int .i64 (-1))
      go_wp2
      refine bodyPost_ret (v := .tuple #[.slice none 0 0, fltV (7, -1)]) (by simp [results, Tryz.results21, go_sem, t0, t1]) rfl ?_
      exact ⟨_, by rw [HE.out], by rw [HE.out]; exact RdT.nil _ _, (HB3.out.setCell (p := ⟨w.heap.size + 1, 0, none⟩) (Nat.le_succ _) _).setCell (p := ⟨w.heap.size + 1, 1, none⟩) (Nat.le_succ _) _⟩
    · have h40i : ¬ 40 ≤ (l.length : Int) := by omega
      obtain ⟨x0, x1, x2, x3, x4, _⟩ := HX2.out
      by_cases hl0 : l.length = 0
      · have hl0i : ¬ 0 < (l.length : Int) := by omega
        have HW : Hid ((0 : Int) = wasAt l l.length) := Lib.hid (by rw [hl0]; rfl)
        clear hl0
        go_wp2_with fail
        generalize w1.alloc (.cells #[.int .i64 0, .int .i64 (-1)] 49) = w2 at *
        generalize w1.heap.size = fb at *
        refine (REntErr_any x (.slice As x.r.ids.length cs) 0 hbx w2 (HSL.out _ HB2.out)).mono ?_
        rintro e w3 ⟨rfl, hb3⟩
        have HB3 := Lib.hid (HB2.out.trans (hb3.mono HB2.out.size))
        have HZ3 := Lib.hid (HZ2.out.below hb3 HZ2.out.lt)
        have HX3 := Lib.hid (HX2.out.below hb3 HX2.out.lt)
        have HF3 := Lib.hid (HF2.out.below hb3 HF2.out.lt)
        have hrg := (entErr_rng x 0).1
        clear hb3 u0 u1 u2 u3 z0 z1 z2 z3 x0 x1 x2 x3 x4
        obtain ⟨u0, u1, u2, u3⟩ := HF3.out
        obtain ⟨z0, z1, z2, z3⟩ := HZ3.out
        obtain ⟨x0, x1, x2, x3, x4, _⟩ := HX3.out
        by_cases he : entErr x 0 = 0
        · have HE := Lib.hid (add_ok (x := x) (by rw [HFF.out]) h40 (by rw [← HW.out]; exact he))
          have he' : ¬ 0 < entErr x 0 := by omega
          clear he hrg
          obtain ⟨E, hE, hEr⟩ := HVB.out w3 HB3.out
          have hEl : E.length = l.length := by rw [← hE, List.length_map]
          have HER := Lib.hid hEr
          have hER1 := hEr.1
          rw [hEl] at hER1
          have HER1 := Lib.hid hER1
          clear hEr hER1
          go_wp2_with (first | (at_builtin; go_loud (refine wpList_append_rdM rfl (.tmp 37) (.tmp 38) 22 rfl w3.heap.size 42 i0 (.agg #[.int .i64 0, .string ByteArray.empty, .int .i64 0, .int .u32 0, .slice none 0 0]) 5 64 Tryz.underlying22 hi hz0 hz1 hz2 rfl (by decide) _ 0 [] rfl (World.ownsRow_nil _ _ _ _) w.heap.size _ l.length (entRow E) rfl HER1.out (entRow_one HER.out.2) (by unfold maxLen; omega) (by omega) (Nat.le_refl _) ?_; intro v5 w5 ho5 hg5)) | fail)
          have hb5 : Below w3.heap.size w3 w5 := (Below.refl _ _).grown hg5 (Nat.le_refl _) (fun j hj => by cases hj)
          have HB5 := Lib.hid (HB3.out.trans (hb5.mono HB3.out.size))
          have HZ5 := Lib.hid (HZ3.out.below hb5 HZ3.out.lt)
          have HX5 := Lib.hid (HX3.out.below hb5 HX3.out.lt)
          have HF5 := Lib.hid (HF3.out.below hb5 HF3.out.lt)
          have ho5' : w5.ownsRow w3.heap.size 42 5 v5 l.length (entRow E) := by simpa using ho5
          have HO5 := Lib.hid ho5'
          have HE5 : Hid (∀ x ∈ E, RdI w5 w.heap.size x.2 x.1.r.ids) := Lib.hid fun x hm => (HER.out.2 x hm).keep hb5 HB3.out.size
          have HS5 : Hid (RdI w5 w.heap.size (.slice As x.r.ids.length cs) x.r.ids) := Lib.hid (HSB.out w5 HB5.out)
          obtain ⟨A5, u5, hv5⟩ := own_formI ho5'
          subst hv5
          have hd3 : w.heap.size + 1 < w3.heap.size := HZ3.out.lt
          have hd5 : w3.heap.size ≤ w5.heap.size := hb5.size
          have hfb : fb < w3.heap.size := HF3.out.lt
          have hfd : fb ≠ w.heap.size + 1 := by omega
          clear hg5 ho5 ho5' hb5 u0 u1 u2 u3 z0 z1 z2 z3 x0 x1 x2 x3 x4
          obtain ⟨u0, u1, u2, u3⟩ := HF5.out
          obtain ⟨z0, z1, z2, z3⟩ := HZ5.out
          obtain ⟨x0, x1, x2, x3, x4, _⟩ := HX5.out
          obtain ⟨t0, t1, t2⟩ := HZ5.out.rd (.int .i64 0) (.int .i64 (-1))
          have v0 : ∀ o, (w5.alloc o).cell? ⟨fb, 0, none⟩ = some (.int .i64 0) := fun o => (HF5.out.alloc o).c0
          have v1 : ∀ o, (w5.alloc o).cell? ⟨fb, 1, none⟩ = some (.int .i64 (-1)) := fun o => (HF5.out.alloc o).c1
          have y0 : ∀ o, (w5.alloc o).cell? ⟨w.heap.size + 1, 0, none⟩ = some (.int .i64 0) := fun o => (HZ5.out.alloc o).c0
          have y1 : ∀ o, (w5.alloc o).cell? ⟨w.heap.size + 1, 1, none⟩ = some (.int .i64 0) := fun o => (HZ5.out.alloc o).c1
          have y2 : ∀ o, (w5.alloc o).frozen? ⟨w.heap.size + 1, 0, none⟩ = false := fun o => (HZ5.out.alloc o).f0
          have y3 : ∀ o, (w5.alloc o).frozen? ⟨w.heap.size + 1, 1, none⟩ = false := fun o => (HZ5.out.alloc o).f1
          go_wp2_with fail
          go_region_law (refine step_append_lies _ rfl (.tmp 40) (.tmp 42) 22 rfl w3.heap.size 42 i0 (.agg #[.int .i64 0, .string ByteArray.empty, .int .i64 0, .int .u32 0, .slice none 0 0]) 5 64 Tryz.underlying22 hi hz0 hz1 hz2 rfl (by decide) (.slice A5 l.length u5) l.length (entRow E) (by simp [Act.eval, Act.put]) (own_gbI HO5.out (d := w.heap.size + 1) (by repeat (first | exact gb_rf _ _ | refine gb_drw ?_ | refine gb_set ?_ _ _ | refine gb_al ?_ _)) hd3) ⟨w5.heap.size, 0, none⟩ 1 1 (entCells (x, .slice As x.r.ids.length cs)) (by simp [Act.eval, Act.put]) rfl (by repeat (first | exact NewE.mk' _ _ _ | exact NewE.mk' _ (x, .slice As x.r.ids.length cs) _ | refine NewE.dr ?_ | refine NewE.setFar ?_ (by omega))) (entCells_one HS5.out) (by decide) (by unfold maxLen; omega) (by omega) (by simp [World.setCell]; omega) (w5.heap.size + 1) (by simp [World.setCell]) ?_; intro g7 cap7 w7 hown7 hg7 hat7 hlt7; have RD7 := Lib.hid (radd_fin (d := w.heap.size + 1) hE HO5.out hd3 (Nat.le_succ _) hd5 HE5.out HS5.out (by repeat (first | exact gb_rf _ _ | refine gb_drw ?_ | refine gb_set ?_ _ _ | refine gb_al ?_ _)) hown7 hg7); have BL7 := Lib.hid (radd_bel (d := w.heap.size + 1) HB5.out HO5.out hd3 (Nat.le_succ _) (by repeat (first | exact gb_rf _ _ | refine gb_drw ?_ | refine gb_set ?_ _ _ | refine gb_al ?_ _)) hg7); have hF7 := radd_box (r := some (w.heap.size + 1)) HF5.out HO5.out hfb (fun e => hfd (Option.some.inj e)) (by repeat (first | exact gb_rf _ _ | refine gb_drw ?_ | refine gb_set ?_ _ _ | refine gb_al ?_ _)) hg7; obtain ⟨m0, m1, m2, m3⟩ := hF7; (first | (have hz7 := radd_box (r := none) HZ5.out HO5.out hd3 (by simp) (by repeat (first | exact gb_rf _ _ | refine gb_drw ?_ | refine gb_al ?_ _)) hg7; obtain ⟨y0, y1, y2, y3⟩ := hz7; obtain ⟨k0, k1, k2⟩ := Box2.rd ⟨y0, y1, y2, y3⟩ (.int .i64 0) (.int .i64 (-1))) | (have hz7 := radd_box0 (b := w.heap.size + 1) (p := .int .i64 0) (q := .int .i64 (-1)) (by repeat (first | exact HZ5.out | refine Box2.dr ?_ | refine Box2.alloc ?_ _ | refine Box2.set ?_ _ _)) HO5.out hd3 hg7; obtain ⟨k0, k1, k2, k3⟩ := hz7)); clear hown7 hg7 hat7 hlt7)
          all_goals
            go_wp2
            refine bodyPost_ret (v := .tuple #[.slice (some ⟨g7, 0, none⟩) (l.length + 1) cap7, fltV (0, -1)]) (by simp [results, Tryz.results21, go_sem, k0, k1]) rfl ?_
            exact ⟨_, by rw [HE.out], by rw [HE.out]; exact RD7.out _ (by repeat (first | exact gb_rf _ _ | refine gb_drw ?_ | refine gb_set ?_ _ _ | refine gb_al ?_ _)), BL7.out _ (by repeat (first | exact gb_rf _ _ | refine gb_drw ?_ | refine gb_set ?_ _ _ | refine gb_al ?_ _))⟩
        · have HE := Lib.hid (add_err (x := x) (by rw [HFF.out]) h40 (by rw [← HW.out]; exact he))
          have he' : 0 < entErr x 0 := by omega
          clear he hrg
          go_wp2_with fail
          refine (RBareF_any _ _).mono ?_
          rintro e w4 ⟨rfl, hb4⟩
          have HB4 := Lib.hid (HB3.out.trans (hb4.mono HB3.out.size))
          have HZ4 := Lib.hid (HZ3.out.below hb4 HZ3.out.lt)
          clear hb4 u0 u1 u2 u3 z0 z1 z2 z3 x0 x1 x2 x3 x4
          obtain ⟨z0, z1, z2, z3⟩ := HZ4.out
          obtain ⟨t0, t1, t2⟩ := HZ4.out.rd (.int .i64 (entErr x 0)) (.int .i64 (-1))
          unfold fltV
          go_wp2
          refine bodyPost_ret (v := .tuple #[.slice none 0 0, fltV (entErr x 0, -1)]) (by simp [results, Tryz.results21, go_sem, t0, t1]) rfl ?_
          exact ⟨_, by rw [HE.out, ← HW.out], by rw [HE.out]; exact RdT.nil _ _, (HB4.out.setCell (p := ⟨w.heap.size + 1, 0, none⟩) (Nat.le_succ _) _).setCell (p := ⟨w.heap.size + 1, 1, none⟩) (Nat.le_succ _) _⟩
      · have hl0i : 0 < (l.length : Int) := by omega
        obtain ⟨g, o, rfl, hg, hcell⟩ := HX.out (by omega)
        obtain ⟨c0, _⟩ := hcell (l.length - 1) (by omega)
        have d0 := (HB2.out.cell (p := ⟨g, o + (l.length - 1) * 5, none⟩) hg).trans c0
        have b1 : (0 : Int) ≤ (l.length : Int) - 1 := by omega
        have b2 : (l.length : Int) - 1 < (l.length : Int) := by omega
        have HW : Hid ((l[l.length - 1]'(by omega)).day = wasAt l l.length) := Lib.hid (by
          have h1 := wasAt_succ (l := l) (k := l.length - 1) (by omega)
          rw [show l.length - 1 + 1 = l.length by omega] at h1
          exact h1.symm)
        generalize (l[l.length - 1]'(by omega)).day = WD at *
        clear hcell c0
        go_wp2_with fail
        generalize w1.alloc (.cells #[.int .i64 0, .int .i64 (-1)] 49) = w2 at *
        generalize w1.heap.size = fb at *
        refine (REntErr_any x (.slice As x.r.ids.length cs) WD hbx w2 (HSL.out _ HB2.out)).mono ?_
        rintro e w3 ⟨rfl, hb3⟩
        have HB3 := Lib.hid (HB2.out.trans (hb3.mono HB2.out.size))
        have HZ3 := Lib.hid (HZ2.out.below hb3 HZ2.out.lt)
        have HX3 := Lib.hid (HX2.out.below hb3 HX2.out.lt)
        have HF3 := Lib.hid (HF2.out.below hb3 HF2.out.lt)
        have hrg := (entErr_rng x WD).1
        clear hb3 u0 u1 u2 u3 z0 z1 z2 z3 x0 x1 x2 x3 x4
        obtain ⟨u0, u1, u2, u3⟩ := HF3.out
        obtain ⟨z0, z1, z2, z3⟩ := HZ3.out
        obtain ⟨x0, x1, x2, x3, x4, _⟩ := HX3.out
        by_cases he : entErr x WD = 0
        · have HE := Lib.hid (add_ok (x := x) (by rw [HFF.out]) h40 (by rw [← HW.out]; exact he))
          have he' : ¬ 0 < entErr x WD := by omega
          clear he hrg
          obtain ⟨E, hE, hEr⟩ := HVB.out w3 HB3.out
          have hEl : E.length = l.length := by rw [← hE, List.length_map]
          have HER := Lib.hid hEr
          have hER1 := hEr.1
          rw [hEl] at hER1
          have HER1 := Lib.hid hER1
          clear hEr hER1
          go_wp2_with (first | (at_builtin; go_loud (refine wpList_append_rdM rfl (.tmp 37) (.tmp 38) 22 rfl w3.heap.size 42 i0 (.agg #[.int .i64 0, .string ByteArray.empty, .int .i64 0, .int .u32 0, .slice none 0 0]) 5 64 Tryz.underlying22 hi hz0 hz1 hz2 rfl (by decide) _ 0 [] rfl (World.ownsRow_nil _ _ _ _) w.heap.size _ l.length (entRow E) rfl HER1.out (entRow_one HER.out.2) (by unfold maxLen; omega) (by omega) (Nat.le_refl _) ?_; intro v5 w5 ho5 hg5)) | fail)
          have hb5 : Below w3.heap.size w3 w5 := (Below.refl _ _).grown hg5 (Nat.le_refl _) (fun j hj => by cases hj)
          have HB5 := Lib.hid (HB3.out.trans (hb5.mono HB3.out.size))
          have HZ5 := Lib.hid (HZ3.out.below hb5 HZ3.out.lt)
          have HX5 := Lib.hid (HX3.out.below hb5 HX3.out.lt)
          have HF5 := Lib.hid (HF3.out.below hb5 HF3.out.lt)
          have ho5' : w5.ownsRow w3.heap.size 42 5 v5 l.length (entRow E) := by simpa using ho5
          have HO5 := Lib.hid ho5'
          have HE5 : Hid (∀ x ∈ E, RdI w5 w.heap.size x.2 x.1.r.ids) := Lib.hid fun x hm => (HER.out.2 x hm).keep hb5 HB3.out.size
          have HS5 : Hid (RdI w5 w.heap.size (.slice As x.r.ids.length cs) x.r.ids) := Lib.hid (HSB.out w5 HB5.out)
          obtain ⟨A5, u5, hv5⟩ := own_formI ho5'
          subst hv5
          have hd3 : w.heap.size + 1 < w3.heap.size := HZ3.out.lt
          have hd5 : w3.heap.size ≤ w5.heap.size := hb5.size
          have hfb : fb < w3.heap.size := HF3.out.lt
          have hfd : fb ≠ w.heap.size + 1 := by omega
          clear hg5 ho5 ho5' hb5 u0 u1 u2 u3 z0 z1 z2 z3 x0 x1 x2 x3 x4
          obtain ⟨u0, u1, u2, u3⟩ := HF5.out
          obtain ⟨z0, z1, z2, z3⟩ := HZ5.out
          obtain ⟨x0, x1, x2, x3, x4, _⟩ := HX5.out
          obtain ⟨t0, t1, t2⟩ := HZ5.out.rd (.int .i64 0) (.int .i64 (-1))
          have v0 : ∀ o, (w5.alloc o).cell? ⟨fb, 0, none⟩ = some (.int .i64 0) := fun o => (HF5.out.alloc o).c0
          have v1 : ∀ o, (w5.alloc o).cell? ⟨fb, 1, none⟩ = some (.int .i64 (-1)) := fun o => (HF5.out.alloc o).c1
          have y0 : ∀ o, (w5.alloc o).cell? ⟨w.heap.size + 1, 0, none⟩ = some (.int .i64 0) := fun o => (HZ5.out.alloc o).c0
          have y1 : ∀ o, (w5.alloc o).cell? ⟨w.heap.size + 1, 1, none⟩ = some (.int .i64 0) := fun o => (HZ5.out.alloc o).c1
          have y2 : ∀ o, (w5.alloc o).frozen? ⟨w.heap.size + 1, 0, none⟩ = false := fun o => (HZ5.out.alloc o).f0
          have y3 : ∀ o, (w5.alloc o).frozen? ⟨w.heap.size + 1, 1, none⟩ = false := fun o => (HZ5.out.alloc o).f1
          go_wp2_with fail
          go_region_law (refine step_append_lies _ rfl (.tmp 40) (.tmp 42) 22 rfl w3.heap.size 42 i0 (.agg #[.int .i64 0, .string ByteArray.empty, .int .i64 0, .int .u32 0, .slice none 0 0]) 5 64 Tryz.underlying22 hi hz0 hz1 hz2 rfl (by decide) (.slice A5 l.length u5) l.length (entRow E) (by simp [Act.eval, Act.put]) (own_gbI HO5.out (d := w.heap.size + 1) (by repeat (first | exact gb_rf _ _ | refine gb_drw ?_ | refine gb_set ?_ _ _ | refine gb_al ?_ _)) hd3) ⟨w5.heap.size, 0, none⟩ 1 1 (entCells (x, .slice As x.r.ids.length cs)) (by simp [Act.eval, Act.put]) rfl (by repeat (first | exact NewE.mk' _ _ _ | exact NewE.mk' _ (x, .slice As x.r.ids.length cs) _ | refine NewE.dr ?_ | refine NewE.setFar ?_ (by omega))) (entCells_one HS5.out) (by decide) (by unfold maxLen; omega) (by omega) (by simp [World.setCell]; omega) (w5.heap.size + 1) (by simp [World.setCell]) ?_; intro g7 cap7 w7 hown7 hg7 hat7 hlt7; have RD7 := Lib.hid (radd_fin (d := w.heap.size + 1) hE HO5.out hd3 (Nat.le_succ _) hd5 HE5.out HS5.out (by repeat (first | exact gb_rf _ _ | refine gb_drw ?_ | refine gb_set ?_ _ _ | refine gb_al ?_ _)) hown7 hg7); have BL7 := Lib.hid (radd_bel (d := w.heap.size + 1) HB5.out HO5.out hd3 (Nat.le_succ _) (by repeat (first | exact gb_rf _ _ | refine gb_drw ?_ | refine gb_set ?_ _ _ | refine gb_al ?_ _)) hg7); have hF7 := radd_box (r := some (w.heap.size + 1)) HF5.out HO5.out hfb (fun e => hfd (Option.some.inj e)) (by repeat (first | exact gb_rf _ _ | refine gb_drw ?_ | refine gb_set ?_ _ _ | refine gb_al ?_ _)) hg7; obtain ⟨m0, m1, m2, m3⟩ := hF7; (first | (have hz7 := radd_box (r := none) HZ5.out HO5.out hd3 (by simp) (by repeat (first | exact gb_rf _ _ | refine gb_drw ?_ | refine gb_al ?_ _)) hg7; obtain ⟨y0, y1, y2, y3⟩ := hz7; obtain ⟨k0, k1, k2⟩ := Box2.rd ⟨y0, y1, y2, y3⟩ (.int .i64 0) (.int .i64 (-1))) | (have hz7 := radd_box0 (b := w.heap.size + 1) (p := .int .i64 0) (q := .int .i64 (-1)) (by repeat (first | exact HZ5.out | refine Box2.dr ?_ | refine Box2.alloc ?_ _ | refine Box2.set ?_ _ _)) HO5.out hd3 hg7; obtain ⟨k0, k1, k2, k3⟩ := hz7)); clear hown7 hg7 hat7 hlt7)
          all_goals
            go_wp2
            refine bodyPost_ret (v := .tuple #[.slice (some ⟨g7, 0, none⟩) (l.length + 1) cap7, fltV (0, -1)]) (by simp [results, Tryz.results21, go_sem, k0, k1]) rfl ?_
            exact ⟨_, by rw [HE.out], by rw [HE.out]; exact RD7.out _ (by repeat (first | exact gb_rf _ _ | refine gb_drw ?_ | refine gb_set ?_ _ _ | refine gb_al ?_ _)), BL7.out _ (by repeat (first | exact gb_rf _ _ | refine gb_drw ?_ | refine gb_set ?_ _ _ | refine gb_al ?_ _))⟩
        · have HE := Lib.hid (add_err (x := x) (by rw [HFF.out]) h40 (by rw [← HW.out]; exact he))
          have he' : 0 < entErr x WD := by omega
          clear he hrg
          go_wp2_with fail
          refine (RBareF_any _ _).mono ?_
          rintro e w4 ⟨rfl, hb4⟩
          have HB4 := Lib.hid (HB3.out.trans (hb4.mono HB3.out.size))
          have HZ4 := Lib.hid (HZ3.out.below hb4 HZ3.out.lt)
          clear hb4 u0 u1 u2 u3 z0 z1 z2 z3 x0 x1 x2 x3 x4
          obtain ⟨z0, z1, z2, z3⟩ := HZ4.out
          obtain ⟨t0, t1, t2⟩ := HZ4.out.rd (.int .i64 (entErr x WD)) (.int .i64 (-1))
          unfold fltV
          go_wp2
          refine bodyPost_ret (v := .tuple #[.slice none 0 0, fltV (entErr x WD, -1)]) (by simp [results, Tryz.results21, go_sem, t0, t1]) rfl ?_
          exact ⟨_, by rw [HE.out, ← HW.out], by rw [HE.out]; exact RdT.nil _ _, (HB4.out.setCell (p := ⟨w.heap.size + 1, 0, none⟩) (Nat.le_succ _) _).setCell (p := ⟨w.heap.size + 1, 1, none⟩) (Nat.le_succ _) _⟩
  · have h0i : 0 < F.1 := by omega
    have HE := Lib.hid (add_fault (x := x) (by rw [hF]; exact h0))
    obtain ⟨t0, t1, t2⟩ := HZ2.out.rd (.int .i64 F.1) (.int .i64 F.2)
    clear h0 hrg
    go_wp2
    generalize w1.alloc (.cells #[.int .i64 F.1, .int .i64 F.2] 49) = w2 at *
    generalize w1.heap.size = fb at *
    go_region
    all_goals
      go_wp2
      refine bodyPost_ret (v := .tuple #[.slice none 0 0, fltV F]) (by simp [results, Tryz.results21, go_sem, t0, t1]) rfl ?_
      exact ⟨_, by rw [HE.out, hF], by rw [HE.out]; exact RdT.nil _ _, (HB2.out.drew.setCell (p := ⟨w.heap.size + 1, 0, none⟩) (Nat.le_succ _) _).setCell (p := ⟨w.heap.size + 1, 1, none⟩) (Nat.le_succ _) _⟩
end Go.Proofs.YtbokckjlgjnnjaaGreatDoor
/- Trails: walk of the reference's TrailAt. No conditions but bounds. -/
namespace Go.Proofs.YtbokckjlgjnnjaaGreatDoor
open Go.RowKit Go.Lib

theorem Box2.setFar {b d j : Nat} {x y : Value} {w : World} (h : Box2 b x y w) (hd : b ≠ d) (v : Value) : Box2 b x y (w.setCell ⟨d, j, none⟩ v) :=
  have hne : ∀ i, (⟨d, j, none⟩ : Addr) ≠ ⟨b, i, none⟩ := fun i e => by injection e with e _; exact hd e.symm
  ⟨(World.cell?_setCell_other _ _ _ _ (hne 0)).trans h.c0, (World.cell?_setCell_other _ _ _ _ (hne 1)).trans h.c1, by rw [World.frozen?_setCell]; exact h.f0, by rw [World.frozen?_setCell]; exact h.f1⟩
/-- a recipe's box and a fault's box, both written: in this order or the other -/
theorem two_a {r d : Nat} {x y z u p q : Value} {w : World} (HR : Box4 r x y z u w) (HD : Box2 d p q w) (h : r ≠ d) (x' y' z' u' p' q' : Value) :
    Box4 r x' y' z' u' ((((((w.setCell ⟨r, 0, none⟩ x').setCell ⟨r, 1, none⟩ y').setCell ⟨r, 2, none⟩ z').setCell ⟨r, 3, none⟩ u').setCell ⟨d, 0, none⟩ p').setCell ⟨d, 1, none⟩ q') ∧ Box2 d p' q' ((((((w.setCell ⟨r, 0, none⟩ x').setCell ⟨r, 1, none⟩ y').setCell ⟨r, 2, none⟩ z').setCell ⟨r, 3, none⟩ u').setCell ⟨d, 0, none⟩ p').setCell ⟨d, 1, none⟩ q') :=
  ⟨((HR.set x' y' z' u').setFar h p').setFar h q', ((((HD.setFar h.symm x').setFar h.symm y').setFar h.symm z').setFar h.symm u').set p' q'⟩
theorem two_b {r d : Nat} {x y z u p q : Value} {w : World} (HR : Box4 r x y z u w) (HD : Box2 d p q w) (h : r ≠ d) (x' y' z' u' p' q' : Value) :
    Box4 r x' y' z' u' ((((((w.setCell ⟨d, 0, none⟩ p').setCell ⟨d, 1, none⟩ q').setCell ⟨r, 0, none⟩ x').setCell ⟨r, 1, none⟩ y').setCell ⟨r, 2, none⟩ z').setCell ⟨r, 3, none⟩ u') ∧ Box2 d p' q' ((((((w.setCell ⟨d, 0, none⟩ p').setCell ⟨d, 1, none⟩ q').setCell ⟨r, 0, none⟩ x').setCell ⟨r, 1, none⟩ y').setCell ⟨r, 2, none⟩ z').setCell ⟨r, 3, none⟩ u') :=
  ⟨((HR.setFar h p').setFar h q').set x' y' z' u', ((((HD.set p' q').setFar h.symm x').setFar h.symm y').setFar h.symm z').setFar h.symm u'⟩
/-- what is found among the first k -/
def FoundAt (p : Ent → Bool) (l : EntL) (k : Nat) (f : Int) : Prop := (f = -1 ∧ lastP p (l.take k) = none) ∨ ∃ j : Nat, ∃ hj : j < l.length, f = j ∧ lastP p (l.take k) = some l[j]
theorem FoundAt.hit {p : Ent → Bool} {l : EntL} {k : Nat} {f : Int} (hk : k < l.length) (hp : p l[k] = true) : FoundAt p l (k + 1) (k : Int) := .inr ⟨k, hk, rfl, by rw [lastP_take hk, if_pos hp]⟩
theorem FoundAt.miss {p : Ent → Bool} {l : EntL} {k : Nat} {f : Int} (h : FoundAt p l k f) (hk : k < l.length) (hp : p l[k] = false) : FoundAt p l (k + 1) f := by
  have e : lastP p (l.take (k + 1)) = lastP p (l.take k) := by rw [lastP_take hk, if_neg (by rw [hp]; simp)]
  rcases h with ⟨h1, h2⟩ | ⟨j, hj, h1, h2⟩
  · exact .inl ⟨h1, e.trans h2⟩
  · exact .inr ⟨j, hj, h1, e.trans h2⟩
def RAtPost (l : EntL) (nm : Bytes) (day : Int) (w : World) (e : Ending) (w' : World) : Prop :=
  ∃ v, e = .returned (.tuple #[v, fltV (atRes l nm day).1]) ∧ RcpV w' w'.heap.size v (atRes l nm day).2 ∧ Below w.heap.size w w'
theorem at_fault {l : EntL} {nm : Bytes} {day : Int} (h : (trailFault l).1 ≠ 0) : atRes l nm day = (trailFault l, rcpZero) := if_pos h
theorem at_end {l : EntL} {nm : Bytes} {day : Int} (h : (trailFault l).1 = 0) : atRes l nm day = atEnd (lastP (hitE nm day) l) := if_neg (not_not_intro h)
theorem rat_fin {l : EntL} {nm : Bytes} {day : Int} {w wf : World} {r : Rcp} {sl : Value} (he : atRes l nm day = ((0, -1), r)) (h : RdI w w.heap.size sl r.ids) (hb : Below w.heap.size w wf) :
    RAtPost l nm day w (.returned (.tuple #[rcpAgg r sl, fltV (0, -1)])) wf := ⟨_, by rw [he], by rw [he]; exact ⟨sl, rfl, (h.keep hb (Nat.le_refl _)).more hb.size⟩, hb⟩
theorem hit_yes {nm : Bytes} {day : Int} {e : Ent} (h1 : e.r.name = nm) (h2 : e.day ≤ day) : hitE nm day e = true := by unfold hitE; simp [h1, h2]
theorem hit_name {nm : Bytes} {day : Int} {e : Ent} (h1 : e.r.name ≠ nm) : hitE nm day e = false := by unfold hitE; simp [h1]
theorem hit_day {nm : Bytes} {day : Int} {e : Ent} (h2 : ¬ e.day ≤ day) : hitE nm day e = false := by unfold hitE; simp; intro _; omega
set_option maxRecDepth 100000 in
set_option maxHeartbeats 4000000 in
theorem RTAt_any (v : Value) (l : EntL) (t : ByteArray) (day : Int) (hb : ∀ e ∈ l, RcpB e.r) (hl : l.length ≤ 1000000) (w : World) (hv : RdT w w.heap.size v l) :
    Calls Tryz.prog 23 #[v, .string t, .int .i64 day] w (RAtPost l t.data.toList day w) := by
  obtain ⟨A, c, hvA, hlc, S, hS, hx⟩ := hv.form
  subst hvA
  have hb0 : Below w.heap.size w ((w.alloc (.cells #[.string ⟨#[]⟩, .int .i64 0, .int .u32 0, .slice none 0 0] 36)).alloc (.cells #[.int .i64 0, .int .i64 0] 49)) := ((Below.refl _ w).alloc (Nat.le_refl _) _).alloc (by simp) _
  have HR0 : Hid (Box4 w.heap.size (.string ⟨#[]⟩) (.int .i64 0) (.int .u32 0) (.slice none 0 0) ((w.alloc (.cells #[.string ⟨#[]⟩, .int .i64 0, .int .u32 0, .slice none 0 0] 36)).alloc (.cells #[.int .i64 0, .int .i64 0] 49))) := Lib.hid ((Box4.mk' w _ _ _ _ 36).below ((Below.refl (w.alloc _).heap.size (w.alloc _)).alloc (Nat.le_refl _) _) (by simp))
  have HD0 : Hid (Box2 (w.heap.size + 1) (.int .i64 0) (.int .i64 0) ((w.alloc (.cells #[.string ⟨#[]⟩, .int .i64 0, .int .u32 0, .slice none 0 0] 36)).alloc (.cells #[.int .i64 0, .int .i64 0] 49))) := Lib.hid (by
    have := Box2.mk' (w.alloc (.cells #[.string ⟨#[]⟩, .int .i64 0, .int .u32 0, .slice none 0 0] 36)) (.int .i64 0) (.int .i64 0) 49
    simpa using this)
  have HB0 := Lib.hid hb0
  have HX := Lib.hid hx
  have HS := Lib.hid hS
  have TF := Lib.hid (RTFault_any _ l hb hl _ (RdT.more (hv.keep hb0 (Nat.le_refl _)) hb0.size))
  have hrg := trailFault_rng l
  have hne : w.heap.size ≠ w.heap.size + 1 := by omega
  clear hv hb0 hS hx
  go_enter Tryz.func23, Tryz.ntmps23
  go_wp2_with fail
  generalize hw0 : (w.alloc (.cells #[.string ⟨#[]⟩, .int .i64 0, .int .u32 0, .slice none 0 0] 36)).alloc (.cells #[.int .i64 0, .int .i64 0] 49) = w0 at *
  clear hw0
  refine TF.out.mono ?_
  rintro e w1 ⟨rfl, hb1⟩
  unfold fltV
  generalize hF : trailFault l = F at *
  have ha2 : Below w1.heap.size w1 (w1.alloc (.cells #[.int .i64 F.1, .int .i64 F.2] 49)) := (Below.refl _ w1).alloc (Nat.le_refl _) _
  have HB2 := Lib.hid ((HB0.out.trans (hb1.mono HB0.out.size)).trans (ha2.mono (HB0.out.trans (hb1.mono HB0.out.size)).size))
  have HR2 := Lib.hid ((HR0.out.below hb1 HR0.out.lt).below ha2 (Nat.lt_of_lt_of_le HR0.out.lt hb1.size))
  have HD2 := Lib.hid ((HD0.out.below hb1 HD0.out.lt).below ha2 (Nat.lt_of_lt_of_le HD0.out.lt hb1.size))
  have HF2 := Lib.hid (Box2.mk' w1 (.int .i64 F.1) (.int .i64 F.2) 49)
  have hlt1 : w.heap.size + 1 < w1.heap.size := Nat.lt_of_lt_of_le HD0.out.lt hb1.size
  clear hb1 ha2 TF
  by_cases h0 : F.1 = 0
  · have HFF := Lib.hid hF
    have hF2 : F = (0, -1) := by rw [← hF]; exact trailFault_two (by rw [hF]; exact h0)
    subst hF2
    simp only at HF2 HB2 HR2 HD2
    clear hF hrg h0
    go_wp2
    generalize w1.alloc (.cells #[.int .i64 0, .int .i64 (-1)] 49) = w2 at *
    generalize w1.heap.size = fb at *
    go_loopg [9, 10] l.length (fun gh vf vi wr => ∃ (k : Nat) (f : Int), vi = .int .i64 k ∧ vf = .int .i64 f ∧ k ≤ l.length ∧ gh = l.length - k ∧ Hid (FoundAt (hitE t.data.toList day) l k f) ∧ wr = w2)
    case atStart => exact ⟨0, -1, rfl, rfl, Nat.zero_le _, rfl, Lib.hid (.inl ⟨rfl, rfl⟩), rfl⟩
    case round =>
      obtain ⟨k, f, rfl, rfl, hk, hgm, hFA, rfl⟩ := hrel
      by_cases hkl : k < l.length
      · obtain ⟨g, o, rfl, hg, hcell⟩ := HX.out (by omega)
        obtain ⟨c0, c1, c2, c3, c4⟩ := hcell k hkl
        have d0 := (HB2.out.cell (p := ⟨g, o + k * 5, none⟩) hg).trans c0
        have d1 := (HB2.out.cell (p := ⟨g, o + k * 5 + 1, none⟩) hg).trans c1
        have b1 : (0 : Int) ≤ (k : Int) := by omega
        have b2 : (k : Int) < (l.length : Int) := by omega
        have hbt : bs t.data.toList = t := by apply ba_ext; rw [bs_toList]
        have hcmp : ((bs l[k].r.name).toList == t.toList) = decide (l[k].r.name = t.data.toList) := by rw [← bs_beq, hbt]
        clear hcell c0 c1 c2 c3 c4
        by_cases he : l[k].r.name = t.data.toList
        · have hei : ((bs l[k].r.name).toList == t.toList) = true := by rw [hcmp]; exact decide_eq_true he
          by_cases hd : l[k].day ≤ day
          · have HFA' : Hid (FoundAt (hitE t.data.toList day) l (k + 1) (k : Int)) := Lib.hid (FoundAt.hit (f := f) hkl (hit_yes he hd))
            clear hcmp he hbt hFA
            go_wp2
            go_roundg (l.length - (k + 1))
            case measure => omega
            case rel => exact ⟨k + 1, k, by go_num, rfl, hkl, rfl, HFA', rfl⟩
          · have HFA' : Hid (FoundAt (hitE t.data.toList day) l (k + 1) f) := Lib.hid (hFA.out.miss hkl (hit_day hd))
            clear hcmp he hbt hFA
            go_wp2
            go_roundg (l.length - (k + 1))
            case measure => omega
            case rel => exact ⟨k + 1, f, by go_num, rfl, hkl, rfl, HFA', rfl⟩
        · have hei : ((bs l[k].r.name).toList == t.toList) = false := by rw [hcmp]; exact decide_eq_false he
          have HFA' : Hid (FoundAt (hitE t.data.toList day) l (k + 1) f) := Lib.hid (hFA.out.miss hkl (hit_name he))
          clear hcmp he hbt hFA
          go_wp2
          go_roundg (l.length - (k + 1))
          case measure => omega
          case rel => exact ⟨k + 1, f, by go_num, rfl, hkl, rfl, HFA', rfl⟩
      · obtain rfl : k = l.length := by omega
        have hfa := hFA.out
        clear hFA
        obtain ⟨r0, r1, r2, r3, rf⟩ := HR2.out
        have f0 := rf 0
        have f1 := rf 1
        have f2 := rf 2
        have f3 := rf 3
        clear rf
        rcases hfa with ⟨rfl, hn⟩ | ⟨j, hj, rfl, hn⟩
        · rw [List.take_length] at hn
          have HE := Lib.hid (at_end (nm := t.data.toList) (day := day) (by rw [HFF.out]))
          have HN := Lib.hid hn
          clear hn
          go_wp2_with fail
          refine (RBareF_any 5 _).mono ?_
          rintro e w3 ⟨rfl, hb3⟩
          have HB3 := Lib.hid (HB2.out.trans (hb3.mono HB2.out.size))
          have HR3 := Lib.hid (HR2.out.below hb3 HR2.out.lt)
          have HD3 := Lib.hid (HD2.out.below hb3 HD2.out.lt)
          clear r0 r1 r2 r3 f0 f1 f2 f3 hb3
          obtain ⟨r0, r1, r2, r3, rf⟩ := HR3.out
          have f0 := rf 0
          have f1 := rf 1
          have f2 := rf 2
          have f3 := rf 3
          clear rf
          obtain ⟨z0, z1, z2, z3⟩ := HD3.out
          obtain ⟨q0, q1⟩ := two_a HR3.out HD3.out hne (.string ⟨#[]⟩) (.int .i64 0) (.int .u32 0) (.slice none 0 0) (.int .i64 5) (.int .i64 (-1))
          obtain ⟨z0', z1', z2', z3'⟩ := (((HD3.out.setFar hne.symm (.string ⟨#[]⟩) (j := 0)).setFar hne.symm (.int .i64 0) (j := 1)).setFar hne.symm (.int .u32 0) (j := 2)).setFar hne.symm (.slice none 0 0) (j := 3)
          unfold fltV
          go_wp2
          refine bodyPost_ret (v := .tuple #[zeroV, fltV (5, -1)]) (by simp [results, Tryz.results23, go_sem, q0.c0, q0.c1, q0.c2, q0.c3, q1.c0, q1.c1, zeroV]) rfl ?_
          exact ⟨_, by rw [HE.out, HN.out]; rfl, by rw [HE.out, HN.out]; exact zero_rcp _ _, by first | exact below_set2 (below_set4 HB3.out (Nat.le_refl _) _ _ _ _) (Nat.le_succ _) _ _ | exact below_set4 (below_set2 HB3.out (Nat.le_succ _) _ _) (Nat.le_refl _) _ _ _ _⟩
        · rw [List.take_length] at hn
          have HE := Lib.hid ((at_end (nm := t.data.toList) (day := day) (by rw [HFF.out])).trans (congrArg atEnd hn))
          obtain ⟨g, o, rfl, hg, hcell⟩ := HX.out (by omega)
          obtain ⟨c0, c1, c2, c3, c4⟩ := hcell j hj
          have d1 := (HB2.out.cell (p := ⟨g, o + j * 5 + 1, none⟩) hg).trans c1
          have d2 := (HB2.out.cell (p := ⟨g, o + j * 5 + 2, none⟩) hg).trans c2
          have d3 := (HB2.out.cell (p := ⟨g, o + j * 5 + 3, none⟩) hg).trans c3
          have d4 := (HB2.out.cell (p := ⟨g, o + j * 5 + 4, none⟩) hg).trans c4
          have b1 : (0 : Int) ≤ (j : Int) := by omega
          have b2 : (j : Int) < (l.length : Int) := by omega
          have HSJ := Lib.hid (HS.out j hj)
          clear hcell c0 c1 c2 c3 c4 hn
          generalize S j = SJ at *
          obtain ⟨SA, sc, hSA⟩ := HSJ.out.slice
          subst hSA
          obtain ⟨z0, z1, z2, z3⟩ := HD2.out
          obtain ⟨y0, y1, _, _⟩ := HF2.out
          obtain ⟨q0, q1⟩ := two_a HR2.out HD2.out hne (VT l[j].r.name) (.int .i64 l[j].r.len) (.int .u32 (l[j].r.print : Int)) (.slice SA l[j].r.ids.length sc) (.int .i64 0) (.int .i64 (-1))
          obtain ⟨q2, q3⟩ := two_b HR2.out HD2.out hne (VT l[j].r.name) (.int .i64 l[j].r.len) (.int .u32 (l[j].r.print : Int)) (.slice SA l[j].r.ids.length sc) (.int .i64 0) (.int .i64 (-1))
          go_wp2
          obtain ⟨r0, r1, r2, r3, _⟩ := HR2.out
          go_region
          all_goals
            go_wp2
            refine bodyPost_ret (v := .tuple #[rcpAgg l[j].r (.slice SA l[j].r.ids.length sc), fltV (0, -1)]) (by first | simp [results, Tryz.results23, go_sem, q0.c0, q0.c1, q0.c2, q0.c3, q1.c0, q1.c1] | simp [results, Tryz.results23, go_sem, q2.c0, q2.c1, q2.c2, q2.c3, q3.c0, q3.c1]) rfl ?_
            exact rat_fin HE.out HSJ.out (by first | exact (below_set2 (below_set4 HB2.out (Nat.le_refl _) _ _ _ _) (Nat.le_succ _) _ _).drew | exact (below_set4 (below_set2 HB2.out (Nat.le_succ _) _ _) (Nat.le_refl _) _ _ _ _).drew | exact below_set2 (below_set4 HB2.out.drew (Nat.le_refl _) _ _ _ _) (Nat.le_succ _) _ _ | exact below_set4 (below_set2 HB2.out.drew (Nat.le_succ _) _ _) (Nat.le_refl _) _ _ _ _)
  · have h0i : 0 < F.1 := by omega
    have HE := Lib.hid (at_fault (nm := t.data.toList) (day := day) (by rw [hF]; exact h0))
    clear h0 hrg
    go_wp2
    generalize w1.alloc (.cells #[.int .i64 F.1, .int .i64 F.2] 49) = w2 at *
    generalize w1.heap.size = fb at *
    obtain ⟨r0, r1, r2, r3, rf⟩ := HR2.out
    have f0 := rf 0
    have f1 := rf 1
    have f2 := rf 2
    have f3 := rf 3
    clear rf
    obtain ⟨z0, z1, z2, z3⟩ := HD2.out
    obtain ⟨y0, y1, _, _⟩ := HF2.out
    obtain ⟨q0, q1⟩ := two_a HR2.out HD2.out hne (.string ⟨#[]⟩) (.int .i64 0) (.int .u32 0) (.slice none 0 0) (.int .i64 F.1) (.int .i64 F.2)
    obtain ⟨q2, q3⟩ := two_b HR2.out HD2.out hne (.string ⟨#[]⟩) (.int .i64 0) (.int .u32 0) (.slice none 0 0) (.int .i64 F.1) (.int .i64 F.2)
    go_region
    all_goals
      go_wp2
      refine bodyPost_ret (v := .tuple #[zeroV, fltV F]) (by first | simp [results, Tryz.results23, go_sem, q0.c0, q0.c1, q0.c2, q0.c3, q1.c0, q1.c1, zeroV] | simp [results, Tryz.results23, go_sem, q2.c0, q2.c1, q2.c2, q2.c3, q3.c0, q3.c1, zeroV]) rfl ?_
      exact ⟨_, by rw [HE.out, hF], by rw [HE.out]; exact zero_rcp _ _, (by first | exact (below_set2 (below_set4 HB2.out (Nat.le_refl _) _ _ _ _) (Nat.le_succ _) _ _).drew | exact (below_set4 (below_set2 HB2.out (Nat.le_succ _) _ _) (Nat.le_refl _) _ _ _ _).drew | exact below_set2 (below_set4 HB2.out.drew (Nat.le_refl _) _ _ _ _) (Nat.le_succ _) _ _ | exact below_set4 (below_set2 HB2.out.drew (Nat.le_succ _) _ _) (Nat.le_refl _) _ _ _ _)⟩
end Go.Proofs.YtbokckjlgjnnjaaGreatDoor
/- Trails: walk of At. Condition: the sentinels that are read lie as named. -/
namespace Go.Proofs.YtbokckjlgjnnjaaGreatDoor
open Go.RowKit Go.Lib Go.Shelf

attribute [local go_sem] Oper.semAt_some
/-! ### what the backward order tells -/
theorem backF_get {n i : Nat} (h : i < (backF n).length) : ((backF n)[i]).val = n - 1 - i := by
  simp only [backF, List.getElem_reverse, List.getElem_finRange, List.length_finRange]
  rfl
theorem back_hit {E : EntXL} {p : Ent → Bool} {p0 : List (Fin E.length)} {k : Fin E.length} {m : Nat} (h : p0 ++ [k] = (backF E.length).take m) (hn : ∀ y ∈ p0, p (E[y.val]'y.isLt).1 = false) (hk : p (E[k.val]'k.isLt).1 = true) :
    lastP p (E.map (·.1)) = some (E[k.val]'k.isLt).1 := by
  have hlen : p0.length + 1 ≤ E.length := by
    have := congrArg List.length h
    rw [List.length_append, List.length_take, backF_length] at this
    simp at this; omega
  have hget : ∀ i (hi : i < p0.length + 1), (p0 ++ [k])[i]? = (backF E.length)[i]? := fun i hi => by
    rw [h, List.getElem?_take, if_pos]
    have := congrArg List.length h
    rw [List.length_append, List.length_take, backF_length] at this
    simp at this; omega
  have hkv : k.val = E.length - 1 - p0.length := by
    have := hget p0.length (by omega)
    rw [List.getElem?_append_right (Nat.le_refl _), Nat.sub_self, List.getElem?_cons_zero, List.getElem?_eq_getElem (by rw [backF_length]; omega)] at this
    rw [Option.some.inj this, backF_get]
  have hkl : k.val < (E.map (·.1)).length := by rw [List.length_map]; exact k.isLt
  have e1 : (E.map (·.1))[k.val]'hkl = (E[k.val]'k.isLt).1 := by simp
  rw [← e1]
  refine lastP_hit hkl (by rw [e1]; exact hk) (lastP_none.2 fun e he => ?_)
  obtain ⟨i, hi, rfl⟩ := List.getElem_of_mem he
  rw [List.length_drop, List.length_map] at hi
  have hj : k.val + 1 + i < E.length := by omega
  have hq : E.length - 1 - (k.val + 1 + i) < p0.length := by omega
  have h2 := hget (E.length - 1 - (k.val + 1 + i)) (by omega)
  rw [List.getElem?_append_left hq, List.getElem?_eq_getElem hq, List.getElem?_eq_getElem (by rw [backF_length]; omega)] at h2
  have h3 := hn _ (List.getElem_mem hq)
  have h4 : (p0[E.length - 1 - (k.val + 1 + i)]).val = k.val + 1 + i := by
    rw [Option.some.inj h2, backF_get]; omega
  simp only [h4] at h3
  simpa [List.getElem_drop] using h3
theorem back_all {E : EntXL} {p : Ent → Bool} (hn : ∀ y ∈ backF E.length, p (E[y.val]'y.isLt).1 = false) : lastP p (E.map (·.1)) = none := lastP_none.2 fun e he => by
  obtain ⟨i, hi, rfl⟩ := List.getElem_of_mem he
  rw [List.length_map] at hi
  have := hn ⟨i, hi⟩ (by simp [backF])
  simpa using this
theorem keepsF_below {B : Nat} {W W' : World} (h : Below W.heap.size W W') : KeepsFrom B W W' := ⟨h.size, fun k o _ hk _ => (h.block k (Array.getElem?_eq_some_iff.1 hk).1).trans hk⟩
theorem keepsF_set {B b j : Nat} {W W' : World} (h : KeepsFrom B W W') (hb : b < B) (v : Value) : KeepsFrom B W (W'.setCell ⟨b, j, none⟩ v) :=
  ⟨by simpa [World.setCell] using h.size, fun k o hB hk ho => by rw [set_keepI (by omega)]; exact h.same k o hB hk ho⟩
/-- a cell of values stands where loops and deferred calls turn -/
theorem cell_ownF {W W' : World} {row : Option Nat} {p : Addr} {v : Value} (h : W.cell? p = some v) (hg : W.grownBy W' row) (hr : ∀ r, row = some r → ∃ o : Obj, W.heap[r]? = some o ∧ o.isCells = false) : W'.cell? p = some v := by
  have hlt := World.block_lt_of_cell? W _ h
  refine (hg.cell_far p hlt (fun e => ?_)).trans h
  obtain ⟨o, ho, hc⟩ := hr p.block e.symm
  unfold World.cell? at h
  rw [ho] at h
  cases o <;> simp_all [Obj.isCells]
theorem rdI_ownF {W W' : World} {row : Option Nat} {B : Nat} {v : Value} {L : IdL} (h : RdI W B v L) (hg : W.grownBy W' row) (hr : ∀ r, row = some r → ∃ o : Obj, W.heap[r]? = some o ∧ o.isCells = false) : RdI W' B v L := by
  obtain ⟨A, c, hv, hl, hc, hx⟩ := h
  refine ⟨A, c, hv, hl, hc, fun h0 => ?_⟩
  obtain ⟨g, o, hA, hgB, hcell⟩ := hx h0
  exact ⟨g, o, hA, hgB, fun k u hu => cell_ownF (hcell k u hu) hg hr⟩
/-- a recipe's four cells -/
structure Cells4 (b : Nat) (x y z u : Value) (w : World) : Prop where
  c0 : w.cell? ⟨b, 0, none⟩ = some x
  c1 : w.cell? ⟨b, 1, none⟩ = some y
  c2 : w.cell? ⟨b, 2, none⟩ = some z
  c3 : w.cell? ⟨b, 3, none⟩ = some u
/-- the last entry that came is the one: its recipe stands in the result's cells -/
def HitS (E : EntXL) (p : Ent → Bool) (w : World) (rb eb : Nat) (pre : List (Fin E.length)) (W : World) : Prop :=
  Below w.heap.size w W ∧ ∃ (p0 : List (Fin E.length)) (k : Fin E.length), pre = p0 ++ [k] ∧ (∀ y ∈ p0, p (E[y.val]'y.isLt).1 = false) ∧ p (E[k.val]'k.isLt).1 = true ∧
    ∃ sl, Cells4 rb (VT (E[k.val]'k.isLt).1.r.name) (.int .i64 (E[k.val]'k.isLt).1.r.len) (.int .u32 ((E[k.val]'k.isLt).1.r.print : Int)) sl W ∧ W.cell? ⟨eb, 0, none⟩ = some .nilIface ∧ RdI W W.heap.size sl (E[k.val]'k.isLt).1.r.ids
theorem hitS_own {E : EntXL} {p : Ent → Bool} {w : World} {rb eb B : Nat} (hB : w.heap.size ≤ B) : OwnFrom B (HitS E p w rb eb) := by
  rintro s W W' row ⟨h1, p0, k, h2, h3, h4, sl, h5, h6, h7⟩ hg hr
  have hr' : ∀ r, row = some r → ∃ o : Obj, W.heap[r]? = some o ∧ o.isCells = false := fun r e => (hr r e).2
  exact ⟨h1.grown hg h1.size (fun r e => Nat.le_trans hB (hr r e).1), p0, k, h2, h3, h4, sl, ⟨cell_ownF h5.c0 hg hr', cell_ownF h5.c1 hg hr', cell_ownF h5.c2 hg hr', cell_ownF h5.c3 hg hr'⟩, cell_ownF h6 hg hr', (rdI_ownF h7 hg hr').more hg.size⟩
structure Cells5 (b : Nat) (x y z u t : Value) (w : World) : Prop where
  c0 : w.cell? ⟨b, 0, none⟩ = some x
  c1 : w.cell? ⟨b, 1, none⟩ = some y
  c2 : w.cell? ⟨b, 2, none⟩ = some z
  c3 : w.cell? ⟨b, 3, none⟩ = some u
  c4 : w.cell? ⟨b, 4, none⟩ = some t
theorem Cells5.own {b : Nat} {x y z u t : Value} {W W' : World} {row : Option Nat} (h : Cells5 b x y z u t W) (hg : W.grownBy W' row) (hr : ∀ r, row = some r → ∃ o : Obj, W.heap[r]? = some o ∧ o.isCells = false) : Cells5 b x y z u t W' :=
  ⟨cell_ownF h.c0 hg hr, cell_ownF h.c1 hg hr, cell_ownF h.c2 hg hr, cell_ownF h.c3 hg hr, cell_ownF h.c4 hg hr⟩
theorem ev_setN {a : Nat → Addr} {v : Value} {c t : Int} {w : World} (h : EV a v c t w) {b : Nat} (hb : w.cell? ⟨b, 0, none⟩ = some .nilIface) (x : Value) : EV a v c t (w.setCell ⟨b, 0, none⟩ x) := by
  rcases h with h | h | ⟨k, g, o, hk, h1, h2, h3, h4⟩
  · exact .inl h
  · exact .inr (.inl h)
  · refine .inr (.inr ⟨k, g, o, hk, h1, h2, (World.cell?_setCell_other _ _ _ _ (fun e => ?_)).trans h3, (World.cell?_setCell_other _ _ _ _ (fun e => ?_)).trans h4⟩)
    · rw [← e, hb] at h3; cases h3
    · rw [← e, hb] at h4; cases h4
theorem all_snoc {α : Type} {q : α → Prop} {pre : List α} {k : α} (h : ∀ y ∈ pre, q y) (hk : q k) : ∀ y ∈ pre ++ [k], q y := fun y hy => by
  rcases List.mem_append.1 hy with h1 | h1
  · exact h y h1
  · rw [List.mem_singleton.1 h1]; exact hk
theorem put_own {W : World} {D : Nat} {o : Obj} (hK : W.heap[D]? = some (.deferred (some []))) : ∀ r, some D = some r → ∃ o : Obj, W.heap[r]? = some o ∧ o.isCells = false := fun r e => by
  injection e with e; subst e; exact ⟨_, hK, rfl⟩
/-- a function that held a range over a function leaves -/
theorem leave_mark {F : Fence} {n : Nat} {fn : Func} {tmps : Array Value} {R : Ending → World → Prop} {D : Nat} {W : World} (v : Value) (hK : W.heap[D]? = some (.deferred (some [])))
    (hres : ∀ W', (∀ p u, W.cell? p = some u → W'.cell? p = some u) → (results fn tmps).run Tryz.prog W' = .ok v W') (hR : R (.returned v) (W.putObj D (.deferred none))) :
    LeavesInM F n Tryz.prog fn tmps R [{ target := .collected D, args := #[] }] .returning W :=
  ⟨by simp, .inl ⟨_, _, rfl, run_takeDeferred hK, v, hres _ (fun p u h => cell_ownF h (grownBy_putObj' W D _) (fun r e => put_own (o := .deferred none) hK r e)), hR⟩⟩
theorem drew_cell (w : World) (p : Addr) : w.drew.cell? p = w.cell? p := rfl
theorem drew_heap (w : World) (k : Nat) : w.drew.heap[k]? = w.heap[k]? := rfl
theorem belowK_own {B : Nat} {w0 : World} (W : World) (l : Nat) (o o' : Obj) (hl : B ≤ l) (h : W.heap[l]? = some o) (_ : o.isCells = false) (_ : o.isWalk = false) : KpB B W (W.putObj l o') := KpB.put hl h
def AtPost (a : Nat → Addr) (l : EntL) (nm : Bytes) (day : Int) (w : World) (e : Ending) (w' : World) : Prop :=
  ∃ v r, e = .returned (.tuple #[v, r]) ∧ EV a r (atRes l nm day).1.1 (atRes l nm day).1.2 w' ∧ RcpV w' w'.heap.size v (atRes l nm day).2 ∧ Below w.heap.size w w'
set_option maxRecDepth 100000 in
set_option maxHeartbeats 1000000 in
theorem TAt_any (a : Nat → Addr) (v : Value) (l : EntL) (t : ByteArray) (day : Int) (hb : ∀ e ∈ l, RcpB e.r) (hl : l.length ≤ 1000000) (w : World) (hv : RdT w w.heap.size v l) (hs : SomeS [1, 2, 3, 4, 6, 7, 8] a w) :
    Calls Tryz.prog 15 #[v, .string t, .int .i64 day] w (AtPost a l t.data.toList day w) := by
  obtain ⟨E, hE, hv⟩ := hv
  obtain ⟨A, c, hvA, hlc, _⟩ := hv.form
  subst hvA
  have hEl : E.length ≤ 1000000 := by rw [← hE, List.length_map] at hl; exact hl
  have HE0 := Lib.hid hE
  have hb1 : Below w.heap.size w (w.alloc (.cells #[.string t] 9)) := (Below.refl _ w).alloc (Nat.le_refl _) _
  have h14 : Below (w.alloc (.cells #[.string t] 9)).heap.size (w.alloc (.cells #[.string t] 9)) (((((w.alloc (.cells #[.string t] 9)).alloc (.cells #[.int .i64 day] 3))).alloc (.cells #[.string ⟨#[]⟩, .int .i64 0, .int .u32 0, .slice none 0 0] 36)).alloc (.cells #[.nilIface] 28)) := (((Below.refl _ _).alloc (Nat.le_refl _) _).alloc (by simp) _).alloc (by simp) _
  have h24 : Below ((w.alloc (.cells #[.string t] 9)).alloc (.cells #[.int .i64 day] 3)).heap.size ((w.alloc (.cells #[.string t] 9)).alloc (.cells #[.int .i64 day] 3)) (((((w.alloc (.cells #[.string t] 9)).alloc (.cells #[.int .i64 day] 3))).alloc (.cells #[.string ⟨#[]⟩, .int .i64 0, .int .u32 0, .slice none 0 0] 36)).alloc (.cells #[.nilIface] 28)) := ((Below.refl _ _).alloc (Nat.le_refl _) _).alloc (by simp) _
  have h34 : Below ((((w.alloc (.cells #[.string t] 9)).alloc (.cells #[.int .i64 day] 3))).alloc (.cells #[.string ⟨#[]⟩, .int .i64 0, .int .u32 0, .slice none 0 0] 36)).heap.size ((((w.alloc (.cells #[.string t] 9)).alloc (.cells #[.int .i64 day] 3))).alloc (.cells #[.string ⟨#[]⟩, .int .i64 0, .int .u32 0, .slice none 0 0] 36)) (((((w.alloc (.cells #[.string t] 9)).alloc (.cells #[.int .i64 day] 3))).alloc (.cells #[.string ⟨#[]⟩, .int .i64 0, .int .u32 0, .slice none 0 0] 36)).alloc (.cells #[.nilIface] 28)) := (Below.refl _ _).alloc (Nat.le_refl _) _
  have n1 : (((((w.alloc (.cells #[.string t] 9)).alloc (.cells #[.int .i64 day] 3))).alloc (.cells #[.string ⟨#[]⟩, .int .i64 0, .int .u32 0, .slice none 0 0] 36)).alloc (.cells #[.nilIface] 28)).cell? ⟨w.heap.size, 0, none⟩ = some (.string t) := (h14.cell (p := ⟨w.heap.size, 0, none⟩) (by simp)).trans (by rw [World.cell?_alloc_at _ _ _ _ rfl]; rfl)
  have n2 : (((((w.alloc (.cells #[.string t] 9)).alloc (.cells #[.int .i64 day] 3))).alloc (.cells #[.string ⟨#[]⟩, .int .i64 0, .int .u32 0, .slice none 0 0] 36)).alloc (.cells #[.nilIface] 28)).cell? ⟨w.heap.size + 1, 0, none⟩ = some (.int .i64 day) := (h24.cell (p := ⟨w.heap.size + 1, 0, none⟩) (by simp)).trans (by rw [World.cell?_alloc_at _ _ _ _ (by simp)]; rfl)
  have n3 : Box4 (w.heap.size + 1 + 1) (.string ⟨#[]⟩) (.int .i64 0) (.int .u32 0) (.slice none 0 0) (((((w.alloc (.cells #[.string t] 9)).alloc (.cells #[.int .i64 day] 3))).alloc (.cells #[.string ⟨#[]⟩, .int .i64 0, .int .u32 0, .slice none 0 0] 36)).alloc (.cells #[.nilIface] 28)) := by
    have := (Box4.mk' ((w.alloc (.cells #[.string t] 9)).alloc (.cells #[.int .i64 day] 3)) (.string ⟨#[]⟩) (.int .i64 0) (.int .u32 0) (.slice none 0 0) 36).below h34 (by simp)
    simpa using this
  have n4 : (((((w.alloc (.cells #[.string t] 9)).alloc (.cells #[.int .i64 day] 3))).alloc (.cells #[.string ⟨#[]⟩, .int .i64 0, .int .u32 0, .slice none 0 0] 36)).alloc (.cells #[.nilIface] 28)).cell? ⟨w.heap.size + 1 + 1 + 1, 0, none⟩ = some .nilIface := by rw [World.cell?_alloc_at _ _ _ _ (by simp)]; rfl
  have n5 : (((((w.alloc (.cells #[.string t] 9)).alloc (.cells #[.int .i64 day] 3))).alloc (.cells #[.string ⟨#[]⟩, .int .i64 0, .int .u32 0, .slice none 0 0] 36)).alloc (.cells #[.nilIface] 28)).frozen? ⟨w.heap.size + 1 + 1 + 1, 0, none⟩ = false := by
    have h : ∀ W : World, (W.alloc (.cells #[.nilIface] 28)).frozen? ⟨W.heap.size, 0, none⟩ = false := fun _ => World.frozen?_alloc_new _ _ _ _
    simpa using h ((((w.alloc (.cells #[.string t] 9)).alloc (.cells #[.int .i64 day] 3))).alloc (.cells #[.string ⟨#[]⟩, .int .i64 0, .int .u32 0, .slice none 0 0] 36))
  have hsz : (((((w.alloc (.cells #[.string t] 9)).alloc (.cells #[.int .i64 day] 3))).alloc (.cells #[.string ⟨#[]⟩, .int .i64 0, .int .u32 0, .slice none 0 0] 36)).alloc (.cells #[.nilIface] 28)).heap.size = w.heap.size + 1 + 1 + 1 + 1 := by simp
  have hb0 : Below w.heap.size w (((((w.alloc (.cells #[.string t] 9)).alloc (.cells #[.int .i64 day] 3))).alloc (.cells #[.string ⟨#[]⟩, .int .i64 0, .int .u32 0, .slice none 0 0] 36)).alloc (.cells #[.nilIface] 28)) := hb1.trans (h14.mono hb1.size)
  have hlt2 : 2 < w.heap.size := World.block_lt_of_cell? w ⟨2, 0, none⟩ (hs 4 (by decide))
  have HV := Lib.hid (fun w' (h : Below w.heap.size w w') => ((hv.keep h (Nat.le_refl _)).more h.size : RdE w' w'.heap.size _ E))
  have HVT := Lib.hid (fun w' (h : Below w.heap.size w w') => (⟨E, hE, (hv.keep h (Nat.le_refl _)).more h.size⟩ : RdT w' w'.heap.size _ l))
  have HS := Lib.hid (fun w' (h : Below w.heap.size w w') => hs.below h)
  have N1 := Lib.hid n1
  have N2 := Lib.hid n2
  have N3 := Lib.hid n3
  have N4 := Lib.hid n4
  have N5 := Lib.hid n5
  have HSZ := Lib.hid hsz
  have HB0 := Lib.hid hb0
  clear hE hv hs h14 h24 h34 hb1 n1 n2 n3 n4 n5 hsz hb0
  refine callsIn_wide.1 (callsIn_of_wp_marks (n := 6) Tryz.func15 rfl trivial (wpIn_wide.2 ?_) rfl)
  simp only [Tryz.ntmps15, List.size_toArray, List.length_cons, List.length_nil, Nat.reduceAdd, Nat.reduceSub, Array.replicate_succ, Array.replicate_zero, List.push_toArray, List.append_toArray, List.nil_append, List.cons_append]
  go_wp2_with fail
  generalize hW4 : (((((w.alloc (.cells #[.string t] 9)).alloc (.cells #[.int .i64 day] 3))).alloc (.cells #[.string ⟨#[]⟩, .int .i64 0, .int .u32 0, .slice none 0 0] 36)).alloc (.cells #[.nilIface] 28)) = w4 at *
  clear hW4
  refine (TCheck_any a _ l hb hl w4 (HVT.out _ HB0.out) ((HS.out _ HB0.out).sub (by decide))).mono ?_
  rintro e w5 ⟨r5, rfl, hev, hb5⟩
  have HB5 := Lib.hid (HB0.out.trans (hb5.mono HB0.out.size))
  have M1 := Lib.hid ((hb5.cell (p := ⟨w.heap.size, 0, none⟩) (by have := HSZ.out; show w.heap.size < _; omega)).trans N1.out)
  have M2 := Lib.hid ((hb5.cell (p := ⟨w.heap.size + 1, 0, none⟩) (by have := HSZ.out; show w.heap.size + 1 < _; omega)).trans N2.out)
  have M3 := Lib.hid (N3.out.below hb5 N3.out.lt)
  have M4 := Lib.hid ((hb5.cell (p := ⟨w.heap.size + 1 + 1 + 1, 0, none⟩) (by have := HSZ.out; show w.heap.size + 1 + 1 + 1 < _; omega)).trans N4.out)
  have M5 := Lib.hid ((hb5.frozen (p := ⟨w.heap.size + 1 + 1 + 1, 0, none⟩) (by have := HSZ.out; show w.heap.size + 1 + 1 + 1 < _; omega)).trans N5.out)
  have hs5 : w.heap.size + 1 + 1 + 1 + 1 ≤ w5.heap.size := by rw [← HSZ.out]; exact hb5.size
  clear hb5 N1 N2 N3 N4 N5
  have hne : w.heap.size + 1 + 1 ≠ w.heap.size + 1 + 1 + 1 := by omega
  generalize hF : trailFault l = F at *
  by_cases h0 : F.1 = 0
  · have HF := Lib.hid hF
    have hF2 : F = (0, -1) := by rw [← hF]; exact trailFault_two (by rw [hF]; exact h0)
    subst hF2
    obtain ⟨rfl, _⟩ := hev.nil rfl
    clear hF hev h0
    go_wp2_with fail
    refine (Back_any A E.length c w5).mono ?_
    rintro e w6' ⟨rfl, rfl⟩
    have ha6 : Below w5.heap.size w5 (w5.alloc (.cells #[.slice A E.length c] 25)) := (Below.refl _ _).alloc (Nat.le_refl _) _
    have HB6 := Lib.hid (HB5.out.trans (ha6.mono HB5.out.size))
    have hsq := Lib.hid (Back1_stops 5 (by decide) w5.heap.size A c E (w5.alloc (.cells #[.slice A E.length c] 25)) (by simp) (by rw [World.cell?_alloc_at _ _ _ _ rfl]; rfl) hEl (HV.out _ HB6.out))
    have P1 := Lib.hid ((ha6.cell (p := ⟨w.heap.size, 0, none⟩) (by show w.heap.size < _; omega)).trans M1.out)
    have P2 := Lib.hid ((ha6.cell (p := ⟨w.heap.size + 1, 0, none⟩) (by show w.heap.size + 1 < _; omega)).trans M2.out)
    have P3 := Lib.hid (M3.out.below ha6 M3.out.lt)
    have P4 := Lib.hid ((ha6.cell (p := ⟨w.heap.size + 1 + 1 + 1, 0, none⟩) (by show w.heap.size + 1 + 1 + 1 < _; omega)).trans M4.out)
    have P5 := Lib.hid ((ha6.frozen (p := ⟨w.heap.size + 1 + 1 + 1, 0, none⟩) (by show w.heap.size + 1 + 1 + 1 < _; omega)).trans M5.out)
    have hs6 : w.heap.size + 1 + 1 + 1 + 1 < (w5.alloc (.cells #[.slice A E.length c] 25)).heap.size := by simp; omega
    clear M1 M2 M3 M4 M5 ha6
    have hbt := Lib.hid (show bs t.data.toList = t by apply ba_ext; rw [bs_toList])
    go_wp2
    generalize w5.alloc (.cells #[.slice A E.length c] 25) = w6 at *
    generalize w5.heap.size = bb at *
    refine wpIn_wide.1 (wpIn_rangeFunc_ownH (n := 6) wide_round (by decide) (gf := 84) (lb := #[.pointer (some ⟨bb, 0, none⟩)]) rfl trivial (enters_of Tryz.func84 (by kernel_rfl) rfl)
      hsq.out KpB.trans (fun W l o o' hl h _ _ => KpB.put hl h) (Below.refl _ _) (fun _ => rfl)
      (fun (pre : List (Fin E.length)) W => Below w6.heap.size w6 W ∧ ∀ y ∈ pre, hitE t.data.toList day (E[y.val]'y.isLt).1 = false)
      (fun c pre W => c = Code.ret ∧ HitS E (hitE t.data.toList day) w (w.heap.size + 1 + 1) (w.heap.size + 1 + 1 + 1) pre W)
      (OwnFrom.and (ownFrom_below (Nat.le_refl _) (Nat.le_refl _)) (fun _ _ _ _ hs _ _ => hs))
      (fun c => OwnFrom.and (fun _ _ _ _ hs _ _ => hs) (hitS_own HB6.out.size))
      ⟨Below.refl _ _, fun _ h => absurd h List.not_mem_nil⟩
      (fun k a' W => ∃ Bx, w6.heap.size ≤ Bx ∧ Cells5 Bx (.int .i64 (E[k.val]'k.isLt).1.day) (VT (E[k.val]'k.isLt).1.r.name) (.int .i64 (E[k.val]'k.isLt).1.r.len) (.int .u32 ((E[k.val]'k.isLt).1.r.print : Int)) (E[k.val]'k.isLt).2 W ∧ a' = { tmps := #[.slice A E.length c, .string t, .int .i64 day, undef, .pointer (some ⟨w.heap.size, 0, none⟩), .pointer (some ⟨w.heap.size + 1, 0, none⟩), .pointer (some ⟨w.heap.size + 1 + 1, 0, none⟩), .pointer (some ⟨w.heap.size + 1 + 1 + 1, 0, none⟩), .nilIface, undef, .pointer (some ⟨Bx, 0, none⟩), .slice A E.length c, .nilIface, .nilIface, .bool false, undef, undef, .slice A E.length c, .func (.func 84) #[] #[.pointer (some ⟨bb, 0, none⟩)], .int .i64 (k.val : Int), entV (E[k.val]'k.isLt), undef, undef, undef, undef, undef, undef, undef, undef, undef, undef, undef, undef, undef, undef, undef, undef], defers := [] })
      (fun k a' s W W' row hs hg hr => by obtain ⟨Bx, h1, h2, h3⟩ := hs; exact ⟨Bx, h1, h2.own hg (fun r e => (hr r e).2), h3⟩)
      ?assign ?body ?done ?stop)
    case assign =>
      rintro l' pre k W K ⟨hB, hn⟩ hK
      obtain ⟨As, cs, hAs⟩ := ((HV.out w6 HB6.out).2 _ (List.getElem_mem k.isLt)).slice
      unfold entV at hK ⊢
      generalize (E[k.val]'k.isLt).2 = SL at *
      subst hAs
      have hx5 := Box5.mk' W (.int .i64 (E[k.val]'k.isLt).1.day) (VT (E[k.val]'k.isLt).1.r.name) (.int .i64 (E[k.val]'k.isLt).1.r.len) (.int .u32 ((E[k.val]'k.isLt).1.r.print : Int)) (.slice As (E[k.val]'k.isLt).1.r.ids.length cs) 38
      gi_wp2
      exact hK _ _ ((KeepsOthers.alloc _ _).from _) (KpB.of_below ((Below.refl _ _).alloc (Nat.le_refl _) _) hB.size) ⟨hB.alloc hB.size _, hn⟩ ⟨W.heap.size, hB.size, ⟨hx5.c0, hx5.c1, hx5.c2, hx5.c3, hx5.c4⟩, rfl⟩
    case body =>
      rintro l' pre k a' W hl' _ ⟨hB, hn⟩ ⟨Bx, hBx, hX, rfl⟩ hlt
      obtain ⟨c0, c1, c2, c3, c4⟩ := hX
      have p1 := (hB.cell (p := ⟨w.heap.size, 0, none⟩) (by show w.heap.size < _; omega)).trans P1.out
      have p2 := (hB.cell (p := ⟨w.heap.size + 1, 0, none⟩) (by show w.heap.size + 1 < _; omega)).trans P2.out
      have hsl : RdI W W.heap.size (E[k.val]'k.isLt).2 (E[k.val]'k.isLt).1.r.ids := (((HV.out w6 HB6.out).2 _ (List.getElem_mem k.isLt)).keep hB (Nat.le_refl _)).more hB.size
      have hrb : RcpB (E[k.val]'k.isLt).1.r := hb _ (by rw [← HE0.out]; exact List.mem_map_of_mem (List.getElem_mem k.isLt))
      have HBW := Lib.hid (HB6.out.trans (hB.mono HB6.out.size))
      have hcmp : ((bs (E[k.val]'k.isLt).1.r.name).toList == t.toList) = decide ((E[k.val]'k.isLt).1.r.name = t.data.toList) := by rw [← bs_beq, hbt.out]
      have HBk := Lib.hid hB
      have HN := Lib.hid hn
      clear hB hn
      by_cases he : (E[k.val]'k.isLt).1.r.name = t.data.toList
      · have hei : ((bs (E[k.val]'k.isLt).1.r.name).toList == t.toList) = true := by rw [hcmp]; exact decide_eq_true he
        by_cases hd : (E[k.val]'k.isLt).1.day ≤ day
        · have HH := Lib.hid (hit_yes (nm := t.data.toList) he hd)
          have HSL := Lib.hid hsl
          have hq3 := P3.out.below HBk.out P3.out.lt
          have hq4 := (HBk.out.cell (p := ⟨w.heap.size + 1 + 1 + 1, 0, none⟩) (by show w.heap.size + 1 + 1 + 1 < _; omega)).trans P4.out
          have hq5 := (HBk.out.frozen (p := ⟨w.heap.size + 1 + 1 + 1, 0, none⟩) (by show w.heap.size + 1 + 1 + 1 < _; omega)).trans P5.out
          have hws : w.heap.size + 1 + 1 + 1 + 1 < W.heap.size := Nat.lt_of_lt_of_le hs6 HBk.out.size
          have Q3 := Lib.hid hq3
          have Q4 := Lib.hid hq4
          have Q5 := Lib.hid hq5
          clear hcmp he hsl hq3 hq4 hq5
          gi_wp2_with ((first | refine ⟨trivial, fun _ => by decide, ?_⟩ | refine ⟨trivial, ?_⟩); gi_at_call 49; go_loud (refine (callsIn_wide.2 (TCopied_any (rcpAgg (E[k.val]'k.isLt).1.r (E[k.val]'k.isLt).2) (E[k.val]'k.isLt).1.r hrb.c W ⟨_, rfl, HSL.out⟩)).mono ?_; rintro e w7 ⟨v7, rfl, ⟨sl7, rfl, hr7⟩, hb7⟩; obtain ⟨A7, c7, hsl7⟩ := hr7.rd.slice; subst hsl7; have Q6 := Lib.hid (Q3.out.below hb7 Q3.out.lt); obtain ⟨r0, r1, r2, r3, rf⟩ := Q6.out; have f0 := rf 0; have f1 := rf 1; have f2 := rf 2; have f3 := rf 3; have m4 := (hb7.cell (p := ⟨w.heap.size + 1 + 1 + 1, 0, none⟩) (by show w.heap.size + 1 + 1 + 1 < _; omega)).trans Q4.out; have m5 := (hb7.frozen (p := ⟨w.heap.size + 1 + 1 + 1, 0, none⟩) (by show w.heap.size + 1 + 1 + 1 < _; omega)).trans Q5.out; have M4 := Lib.hid m4; have HR7 := Lib.hid hr7; have HB7 := Lib.hid hb7; clear hr7 hb7 rf))
          have hq := (Q6.out.set (VT (E[k.val]'k.isLt).1.r.name) (.int .i64 (E[k.val]'k.isLt).1.r.len) (.int .u32 ((E[k.val]'k.isLt).1.r.print : Int)) (.slice A7 (E[k.val]'k.isLt).1.r.ids.length c7)).setFar (d := w.heap.size + 1 + 1 + 1) (j := 0) (by omega) .nilIface
          refine ⟨keepsF_set (keepsF_set (keepsF_set (keepsF_set (keepsF_set (keepsF_below HB7.out) (by omega) _) (by omega) _) (by omega) _) (by omega) _) (by omega) _, rfl, (below_set4 (HBW.out.trans (HB7.out.mono HBW.out.size)) (by omega) _ _ _ _).setCell (p := ⟨w.heap.size + 1 + 1 + 1, 0, none⟩) (by show w.heap.size ≤ w.heap.size + 1 + 1 + 1; omega) _, pre, k, rfl, HN.out, HH.out, .slice A7 (E[k.val]'k.isLt).1.r.ids.length c7, ⟨hq.c0, hq.c1, hq.c2, hq.c3⟩, ?_, ?_⟩
          · exact World.cell?_setCell_same _ _ _ ((cell_set4 _ _ _ _ _ (by show w.heap.size + 1 + 1 + 1 ≠ _; omega)).trans M4.out)
          · refine ((HR7.out.keep (fun p h1 _ => ?_) (Nat.le_refl _) (Nat.le_refl _)).rd).more (by simp [World.setCell])
            rw [World.cell?_setCell_other _ _ _ _ (by intro e; rw [← e] at h1; simp at h1; omega), cell_set4 _ _ _ _ _ (by omega)]
        · have HH := Lib.hid (hit_day (nm := t.data.toList) hd)
          clear hcmp he hsl
          gi_wp2
          exact ⟨KeepsFrom.refl _ _, KpB.refl _ _, HBk.out, all_snoc HN.out HH.out⟩
      · have hei : ((bs (E[k.val]'k.isLt).1.r.name).toList == t.toList) = false := by rw [hcmp]; exact decide_eq_false he
        have HH := Lib.hid (hit_name (day := day) he)
        clear hcmp he hsl
        gi_wp2
        exact ⟨KeepsFrom.refl _ _, KpB.refl _ _, HBk.out, all_snoc HN.out HH.out⟩
    case done =>
      rintro D ys W hD hys ⟨hB, hn⟩ hK
      subst hys
      have HE := Lib.hid ((at_end (nm := t.data.toList) (day := day) (by rw [HF.out])).trans (congrArg atEnd ((congrArg (lastP (hitE t.data.toList day)) HE0.out.symm).trans (back_all hn))))
      have hq3 := P3.out.below hB P3.out.lt
      have Q3 := Lib.hid hq3
      have hq4 := (hB.cell (p := ⟨w.heap.size + 1 + 1 + 1, 0, none⟩) (by show w.heap.size + 1 + 1 + 1 < _; omega)).trans P4.out
      have hq5 := (hB.frozen (p := ⟨w.heap.size + 1 + 1 + 1, 0, none⟩) (by show w.heap.size + 1 + 1 + 1 < _; omega)).trans P5.out
      have Q4 := Lib.hid hq4
      have HBW := Lib.hid (HB6.out.trans (hB.mono HB6.out.size))
      have s5 : W.cell? ⟨2, 0, none⟩ = some (sval a 4) := HS.out _ HBW.out 4 (by decide)
      unfold sval at s5
      have hn2 : ¬ (2 = w.heap.size + 1 + 1) := by omega
      obtain ⟨r0, r1, r2, r3, rf⟩ := hq3
      have f0 := rf 0
      have f1 := rf 1
      have f2 := rf 2
      have f3 := rf 3
      have HK := Lib.hid hK
      have HD := Lib.hid hD
      clear rf hn hB hK hD
      go_wp2
      go_region
      go_wp2
      have q0 := (Q3.out.set (.string ⟨#[]⟩) (.int .i64 0) (.int .u32 0) (.slice none 0 0)).setFar (d := w.heap.size + 1 + 1 + 1) (j := 0) hne (.iface 265 (.pointer (some (a 4))))
      have q4 : ((((W.setCell ⟨w.heap.size + 1 + 1, 0, none⟩ (.string ⟨#[]⟩)).setCell ⟨w.heap.size + 1 + 1, 1, none⟩ (.int .i64 0)).setCell ⟨w.heap.size + 1 + 1, 2, none⟩ (.int .u32 0)).setCell ⟨w.heap.size + 1 + 1, 3, none⟩ (.slice none 0 0)).cell? ⟨w.heap.size + 1 + 1 + 1, 0, none⟩ = some .nilIface := (cell_set4 _ _ _ _ _ (Ne.symm hne)).trans Q4.out
      have q1 := World.cell?_setCell_same _ _ (Value.iface 265 (.pointer (some (a 4)))) q4
      have hd := HD.out
      have hk : (((((W.setCell ⟨w.heap.size + 1 + 1, 0, none⟩ (.string ⟨#[]⟩)).setCell ⟨w.heap.size + 1 + 1, 1, none⟩ (.int .i64 0)).setCell ⟨w.heap.size + 1 + 1, 2, none⟩ (.int .u32 0)).setCell ⟨w.heap.size + 1 + 1, 3, none⟩ (.slice none 0 0)).setCell ⟨w.heap.size + 1 + 1 + 1, 0, none⟩ (Value.iface 265 (.pointer (some (a 4))))).heap[D]? = some (.deferred (some [])) := by
        rw [set_keepI (by omega), set_keepI (by omega), set_keepI (by omega), set_keepI (by omega), set_keepI (by omega)]; exact HK.out
      have hbl := ((below_set4 HBW.out (b := w.heap.size + 1 + 1) (by omega) (.string ⟨#[]⟩) (.int .i64 0) (.int .u32 0) (.slice none 0 0)).setCell (p := ⟨w.heap.size + 1 + 1 + 1, 0, none⟩) (by show w.heap.size ≤ w.heap.size + 1 + 1 + 1; omega) (Value.iface 265 (.pointer (some (a 4))))).drew
      have g0 := (drew_cell _ _).trans q0.c0
      have g1 := (drew_cell _ _).trans q0.c1
      have g2 := (drew_cell _ _).trans q0.c2
      have g3 := (drew_cell _ _).trans q0.c3
      have g4 := (drew_cell _ _).trans q1
      have g5 := (drew_heap _ D).trans hk
      clear q0 q1 q4 hk r0 r1 r2 r3 f0 f1 f2 f3 s5 hq4 hq5
      generalize (((((W.setCell ⟨w.heap.size + 1 + 1, 0, none⟩ (.string ⟨#[]⟩)).setCell ⟨w.heap.size + 1 + 1, 1, none⟩ (.int .i64 0)).setCell ⟨w.heap.size + 1 + 1, 2, none⟩ (.int .u32 0)).setCell ⟨w.heap.size + 1 + 1, 3, none⟩ (.slice none 0 0)).setCell ⟨w.heap.size + 1 + 1 + 1, 0, none⟩ (Value.iface 265 (.pointer (some (a 4))))).drew = Wf at *
      refine leave_mark (.tuple #[zeroV, .iface 265 (.pointer (some (a 4)))]) g5 (fun W' hc => by simp [results, Tryz.results15, go_sem, hc _ _ g0, hc _ _ g1, hc _ _ g2, hc _ _ g3, hc _ _ g4, zeroV]) ?_
      refine ⟨_, _, rfl, by rw [HE.out]; exact EV.sent a _ 4 (by decide), by rw [HE.out]; exact zero_rcp _ _, hbl.grown (grownBy_putObj' _ D (.deferred none)) hbl.size (fun r e => by injection e with e; subst e; exact Nat.le_trans HB6.out.size HD.out)⟩
    case stop =>
      rintro D c' pre W hD ⟨m, hSp⟩ ⟨rfl, hH⟩ hK
      have HH := Lib.hid hH
      have HK := Lib.hid hK
      have HD := Lib.hid hD
      clear hH hK hD
      refine wpIn_wide.2 ?_
      go_wp2
      obtain ⟨hbl, p0, k, rfl, hn, hk, sl, q0, q1, hsl⟩ := HH.out
      have HE := Lib.hid ((at_end (nm := t.data.toList) (day := day) (by rw [HF.out])).trans (congrArg atEnd ((congrArg (lastP (hitE t.data.toList day)) HE0.out.symm).trans (back_hit hSp hn hk))))
      refine leave_mark (.tuple #[rcpAgg (E[k.val]'k.isLt).1.r sl, .nilIface]) HK.out (fun W' hc => by simp [results, Tryz.results15, go_sem, hc _ _ q0.c0, hc _ _ q0.c1, hc _ _ q0.c2, hc _ _ q0.c3, hc _ _ q1]) ?_
      have hg := grownBy_putObj' W D (.deferred none)
      have hr := put_own (o := .deferred none) HK.out
      refine ⟨_, _, rfl, by rw [HE.out]; exact EV.none a _, by rw [HE.out]; exact ⟨sl, rfl, (rdI_ownF hsl hg hr).more hg.size⟩, hbl.grown hg hbl.size (fun r e => by injection e with e; subst e; exact Nat.le_trans HB6.out.size HD.out)⟩
  · have HE := Lib.hid (at_fault (nm := t.data.toList) (day := day) (by rw [hF]; exact h0))
    obtain ⟨T, p, hr1⟩ := hev.some h0
    subst hr1
    have HEV := Lib.hid hev
    obtain ⟨r0, r1, r2, r3, rf⟩ := M3.out
    have f0 := rf 0
    have f1 := rf 1
    have f2 := rf 2
    have f3 := rf 3
    have m4 := M4.out
    have m5 := M5.out
    clear rf hev h0
    go_wp2
    have q0 := (M3.out.set (.string ⟨#[]⟩) (.int .i64 0) (.int .u32 0) (.slice none 0 0)).setFar (d := w.heap.size + 1 + 1 + 1) (j := 0) hne (.iface T p)
    have q4 : ((((w5.setCell ⟨w.heap.size + 1 + 1, 0, none⟩ (.string ⟨#[]⟩)).setCell ⟨w.heap.size + 1 + 1, 1, none⟩ (.int .i64 0)).setCell ⟨w.heap.size + 1 + 1, 2, none⟩ (.int .u32 0)).setCell ⟨w.heap.size + 1 + 1, 3, none⟩ (.slice none 0 0)).cell? ⟨w.heap.size + 1 + 1 + 1, 0, none⟩ = some .nilIface := (cell_set4 _ _ _ _ _ (Ne.symm hne)).trans M4.out
    have q1 := World.cell?_setCell_same _ _ (Value.iface T p) q4
    refine ⟨.tuple #[zeroV, .iface T p], by simp [results, Tryz.results15, go_sem, q0.c0, q0.c1, q0.c2, q0.c3, q1, zeroV], ?_⟩
    refine ⟨_, _, rfl, ?_, ?_, ?_⟩
    · rw [HE.out, hF]; exact ev_setN (ev_set4 HEV.out M3.out _ _ _ _) q4 _
    · rw [HE.out]; exact zero_rcp _ _
    · exact (below_set4 HB5.out (by omega) _ _ _ _).setCell (p := ⟨w.heap.size + 1 + 1 + 1, 0, none⟩) (by show w.heap.size ≤ w.heap.size + 1 + 1 + 1; omega) _
end Go.Proofs.YtbokckjlgjnnjaaGreatDoor
/- Trails: the library's slices.Reverse at entries; what is kept, as the backward order builds it. No conditions but bounds. -/
namespace Go.Proofs.YtbokckjlgjnnjaaGreatDoor
open Go.RowKit Go.Lib Go.Shelf Go.Sort

instance : Inhabited Ent := ⟨⟨0, rcpZero⟩⟩
instance : Inhabited EntX := ⟨(default, .nilIface)⟩
/-- an entry's cells, each one cell -/
def entC1 (x : EntX) : List Value := [.int .i64 x.1.day, VT x.1.r.name, .int .i64 x.1.r.len, .int .u32 (x.1.r.print : Int), if x.2.oneCell' = true then x.2 else .nilIface]
theorem entC1_one (x : EntX) : ∀ v ∈ entC1 x, v.oneCell' = true := by
  intro v hv
  simp only [entC1, List.mem_cons, List.not_mem_nil, or_false] at hv
  rcases hv with rfl | rfl | rfl | rfl | rfl
  · rfl
  · rfl
  · rfl
  · rfl
  · split
    · assumption
    · rfl
theorem entC1_eq {x : EntX} (h : x.2.oneCell' = true) : entC1 x = entCells x := by unfold entC1 entCells; rw [if_pos h]
theorem flat_ent {E : EntXL} (h : ∀ x ∈ E, x.2.oneCell' = true) : flatK entC1 5 E.toArray = (entRow E).toArray := by
  refine ext_get! (by simp [entRow_length]) fun t ht => ?_
  have ht' : t < E.length * 5 := by simpa using ht
  have hd : t / 5 < E.length := by omega
  rw [get_flatK _ _ _ t (by simpa using ht')]
  have h1 := entRow_at E (t / 5) hd (t % 5) (Nat.mod_lt _ (by decide))
  rw [show t / 5 * 5 + t % 5 = t by omega] at h1
  have h2 : (entRow E).toArray[t]! = ((entRow E)[t]?).getD default := by simp [Array.getElem!_eq_getD, Array.getD_eq_getD_getElem?]
  rw [h2, h1, ← entC1_eq (h _ (List.getElem_mem hd))]
  simp [List.getElem!_eq_getElem?_getD, getElem!_pos, hd]
theorem holdsK_ent {w : World} {base g n cap : Nat} {T : TypeId} {E : EntXL} (hE : ∀ x ∈ E, x.2.oneCell' = true) (h : w.ownsRow base T 5 (.slice (some ⟨g, 0, none⟩) n cap) n (entRow E)) : HoldsK entC1 5 w g 0 E.toArray := by
  show Holds id w g 0 (flatK entC1 5 E.toArray)
  rw [flat_ent hE]
  intro j hj
  have hj' : j < (entRow E).length := by simpa using hj
  have hl := h.1
  rw [Nat.zero_add]
  refine ⟨?_, h.frozenAt j⟩
  rw [h.cellAt j (by omega), List.getElem?_eq_getElem hj']
  simp [getElem!_pos, hj']
theorem own_putRowE {w : World} {base g n cap q : Nat} {T : TypeId} {zs : List Value} {ys : EntXL} (hE : ∀ x ∈ ys, x.2.oneCell' = true) (h : w.ownsRow base T 5 (.slice (some ⟨g, 0, none⟩) n cap) n zs) (hy : ys.length = n) :
    (putRowK entC1 5 (Sort.ahead w q) g 0 ys.toArray).ownsRow base T 5 (.slice (some ⟨g, 0, none⟩) n cap) n (entRow ys) := by
  unfold putRowK
  rw [flat_ent hE]
  rcases h.2 with ⟨e0, _⟩ | ⟨g', cap', cur, e0, hb, hg, hn, hm, hs, ht⟩
  · cases e0
  · injection e0 with e1 _ e3
    injection e1 with e1
    injection e1 with e1
    subst e1; subst e3
    have hz := entRow_length ys
    refine ⟨by rw [hz, hy], .inr ⟨g, cap, putCells id 0 (entRow ys).toArray cur, rfl, hb, ?_, hn, hm, by simpa [putCells] using hs, ?_⟩⟩
    · simp [putRow, mapBlock, Sort.ahead, Array.getElem?_modify, hg, onCells]
    · apply List.ext_getElem?
      intro j
      rw [List.getElem?_take, Array.getElem?_toList]
      by_cases hj : j < n * 5
      · have hjc : j < cur.size := by omega
        have hjz : j < (entRow ys).length := by omega
        simp only [if_pos hj, putCells, Array.getElem?_mapIdx, Array.getElem?_eq_getElem hjc, Option.map_some]
        rw [if_pos (by simp; omega), List.getElem?_eq_getElem hjz]
        simp [getElem!_pos, hjz]
      · rw [if_neg hj, List.getElem?_eq_none (by omega)]
theorem gb_putRowE (w : World) (g q : Nat) (d : Array EntX) : w.grownBy (putRowK entC1 5 (Sort.ahead w q) g 0 d) (some g) := by
  refine ⟨rfl, rfl, rfl, ?_, fun i _ hne => ?_⟩
  · simp [putRowK, putRow, mapBlock, Sort.ahead]
  · have hne' : g ≠ i := fun e => hne (by rw [e])
    simp [putRowK, putRow, mapBlock, Sort.ahead, Array.getElem?_modify, hne']
def RevPost (base : Nat) (v : Value) (l : EntL) (w : World) (e : Ending) (w' : World) : Prop := e = .returned (.tuple #[]) ∧ OwT w' base 38 v l.reverse ∧ w.grownBy w' v.ownBlock
theorem TRev_any (base : Nat) (v : Value) (l : EntL) (w : World) (hO : OwT w base 38 v l) (hl : l.length ≤ 1000000) : Calls Tryz.prog 50 #[v] w (RevPost base v l w) := by
  obtain ⟨E, rfl, ho, hx⟩ := hO
  rw [List.length_map] at hl
  have h1 : ∀ x ∈ E, x.2.oneCell' = true := fun x hm => (hx x hm).1.one
  rcases ho.2 with ⟨e0, e1⟩ | ⟨g, cap, cur, e0, _⟩
  · subst e0
    have h0 : E = [] := List.length_eq_zero_iff.1 e1
    subst h0
    refine (AnyQ.slices_Reverse_empty (P := Tryz.prog) Tryz.rev50 none 0 w).mono fun e w' ⟨h1, h2⟩ => ⟨h1, ?_, ?_⟩
    · rw [h2]; exact OwT.nil _ _ _
    · rw [h2]; exact gb_rf _ _
  · subst e0
    refine (AnyQ.slices_Reverse (P := Tryz.prog) Tryz.rev50 5 Tryz.isAgg38 Tryz.sizeOf38 entC1 (fun _ => rfl) entC1_one g 0 cap E.toArray w (holdsK_ent h1 ho) (by simp; omega)).mono ?_
    rintro e w' ⟨rfl, q, rfl⟩
    have hg := gb_putRowE w g q E.toArray.reverse
    refine ⟨rfl, ⟨E.reverse, by rw [List.map_reverse], ?_, fun x hm => ?_⟩, hg⟩
    · rw [List.length_reverse]
      have := own_putRowE (q := q) (ys := E.reverse) (fun x hm => h1 x (List.mem_reverse.1 hm)) ho (List.length_reverse)
      simpa using this
    · have hm' := List.mem_reverse.1 hm
      exact ⟨((hx x hm').1.keepG hg (Nat.le_refl _) (fun b e => (hx x hm').2 b e)).more hg.size, (hx x hm').2⟩
/-! ### what is kept, in the backward order -/
def outB (many : Int) (pm : EntL) : EntL := (keepL many pm.reverse).reverse
theorem cntN_reverse (nm : Bytes) (l : EntL) : cntN nm l.reverse = cntN nm l := by unfold cntN; rw [List.filter_reverse, List.length_reverse]
theorem outB_yes {many : Int} {pm : EntL} {e : Ent} (h : (cntN e.r.name pm : Int) < many) : outB many (pm ++ [e]) = outB many pm ++ [e] := by
  unfold outB
  rw [List.reverse_append, List.reverse_singleton, List.singleton_append, keepL, if_pos (by rw [cntN_reverse]; exact h), List.reverse_cons]
theorem outB_no {many : Int} {pm : EntL} {e : Ent} (h : ¬ (cntN e.r.name pm : Int) < many) : outB many (pm ++ [e]) = outB many pm := by
  unfold outB
  rw [List.reverse_append, List.reverse_singleton, List.singleton_append, keepL, if_neg (by rw [cntN_reverse]; exact h)]
theorem outB_len (many : Int) (pm : EntL) : (outB many pm).length ≤ pm.length := by
  unfold outB
  have := keepL_len many pm.reverse
  rw [List.length_reverse] at *
  exact this
theorem cntN_snoc (nm : Bytes) (pm : EntL) (e : Ent) : cntN nm (pm ++ [e]) = cntN nm pm + (if e.r.name = nm then 1 else 0) := by
  rw [cntN_append]
  congr 1
  unfold cntN nameE
  by_cases h : e.r.name = nm
  · rw [if_pos h]; simp [h]
  · rw [if_neg h]; simp [h]
theorem backF_map {E : EntXL} : (backF E.length).map (fun k => (E[k.val]'k.isLt).1) = (E.map (·.1)).reverse := by
  unfold backF
  rw [List.map_reverse]
  congr 1
  apply List.ext_getElem
  · simp
  · intro i h1 h2
    simp
theorem outB_all {E : EntXL} {many : Int} : (outB many ((backF E.length).map (fun k => (E[k.val]'k.isLt).1))).reverse = keepL many (E.map (·.1)) := by
  unfold outB
  rw [backF_map, List.reverse_reverse, List.reverse_reverse]
end Go.Proofs.YtbokckjlgjnnjaaGreatDoor

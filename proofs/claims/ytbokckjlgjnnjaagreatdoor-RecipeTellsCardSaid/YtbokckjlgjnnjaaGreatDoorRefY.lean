/- Walk of the reference's IsName. No conditions but bounds. -/
import Derived.Test.YtbokckjlgjnnjaaGreatDoorName
namespace Go.Proofs.YtbokckjlgjnnjaaGreatDoor
open Go.RowKit Go.Lib

theorem nameC (c : UInt8) : nameSet.contains c = (decide (97 ≤ c.toNat ∧ c.toNat ≤ 122) || decide (48 ≤ c.toNat ∧ c.toNat ≤ 57) || decide (c.toNat = 46) || decide (c.toNat = 45)) := by
  have h : ∀ i : Fin 256, nameSet.contains (UInt8.ofNat i.1) = (decide (97 ≤ (UInt8.ofNat i.1).toNat ∧ (UInt8.ofNat i.1).toNat ≤ 122) || decide (48 ≤ (UInt8.ofNat i.1).toNat ∧ (UInt8.ofNat i.1).toNat ≤ 57) || decide ((UInt8.ofNat i.1).toNat = 46) || decide ((UInt8.ofNat i.1).toNat = 45)) := by decide +kernel
  have := h ⟨c.toNat, c.toNat_lt⟩
  rwa [show UInt8.ofNat (⟨c.toNat, c.toNat_lt⟩ : Fin 256).1 = c from UInt8.ofNat_toNat] at this
theorem nameC_yes {c : UInt8} (h : (97 ≤ c.toNat ∧ c.toNat ≤ 122) ∨ (48 ≤ c.toNat ∧ c.toNat ≤ 57) ∨ c.toNat = 46 ∨ c.toNat = 45) : nameSet.contains c = true := by
  rw [nameC]
  rcases h with h | h | h | h
  · rw [decide_eq_true h]; rfl
  · rw [decide_eq_true h, Bool.or_true]; rfl
  · rw [decide_eq_true h, Bool.or_true]; rfl
  · rw [decide_eq_true h, Bool.or_true]
theorem nameC_no {c : UInt8} (h1 : ¬ (97 ≤ c.toNat ∧ c.toNat ≤ 122)) (h2 : ¬ (48 ≤ c.toNat ∧ c.toNat ≤ 57)) (h3 : ¬ c.toNat = 46) (h4 : ¬ c.toNat = 45) : nameSet.contains c = false := by
  rw [nameC, decide_eq_false h1, decide_eq_false h2, decide_eq_false h3, decide_eq_false h4]; rfl
theorem all_next {l : List UInt8} {k : Nat} (hk : k < l.length) (h : (l.take k).all (nameSet.contains ·) = true) (h1 : nameSet.contains l[k] = true) : (l.take (k + 1)).all (nameSet.contains ·) = true := by
  rw [List.take_succ_eq_append_getElem hk, List.all_append, h]; simp only [List.all_cons, List.all_nil, Bool.and_true, h1]
theorem all_hit {l : List UInt8} {k : Nat} (hk : k < l.length) (h1 : nameSet.contains l[k] = false) : isName l = false := by
  unfold isName
  have : l.all (nameSet.contains ·) = false := by
    rw [List.all_eq_false]
    exact ⟨l[k], List.getElem_mem hk, by rw [h1]; simp⟩
  rw [this, Bool.and_false]
set_option maxRecDepth 100000 in
set_option maxHeartbeats 1000000 in
theorem RIsName_any (t : ByteArray) (ht : t.size ≤ 9223372036854775807) (w : World) :
    Calls Tryz.prog 41 #[.string t] w fun e w' => e = .returned (.bool (isName t.data.toList)) ∧ w = w' := by
  have HZ := Lib.hid (size_toList t)
  go_enter Tryz.func41, Tryz.ntmps41
  go_wp2
  go_loop [3] (fun vi => ∃ k : Nat, vi = .int .i64 k ∧ k ≤ t.size ∧ Hid ((t.data.toList.take k).all (nameSet.contains ·) = true)) (fun vi => t.size - (RowKit.intOf vi).toNat)
  case atStart => exact ⟨0, rfl, Nat.zero_le _, rfl⟩
  case round =>
    obtain ⟨k, rfl, hk, hall⟩ := hrel
    by_cases hkl : k < t.size
    · have hkl' : k < t.data.toList.length := by rw [← HZ.out]; exact hkl
      have b1 : (0 : Int) ≤ (k : Int) := by omega
      have b2 : (k : Int) < (t.size : Int) := by omega
      have hc256 := t[k].toNat_lt
      have HG : Hid (t.data.toList[k] = t[k]) := Lib.hid rfl
      by_cases h1 : 97 ≤ t[k].toNat
      · have h1i : (97 : Int) ≤ (t[k].toNat : Int) := by omega
        have h48 : (48 : Int) ≤ (t[k].toNat : Int) := by omega
        have h57 : ¬ (t[k].toNat : Int) ≤ 57 := by omega
        by_cases h2 : t[k].toNat ≤ 122
        · have h2i : (t[k].toNat : Int) ≤ (122 : Int) := by omega
          have HN : Hid ((t.data.toList.take (k + 1)).all (nameSet.contains ·) = true) := Lib.hid (all_next hkl' hall.out (by rw [HG.out]; exact nameC_yes (by omega)))
          go_wp2
          go_round
          case rel => exact ⟨k + 1, by go_num, hkl, HN⟩
          case measure => simp [RowKit.intOf]; omega
        · have h2i : ¬ (t[k].toNat : Int) ≤ (122 : Int) := by omega
          have q46 : ((t[k].toNat : Int) != 46) = true := by simp; omega
          have q45 : ((t[k].toNat : Int) != 45) = true := by simp; omega
          have HJ : Hid (isName t.data.toList = false) := Lib.hid (all_hit hkl' (by rw [HG.out]; exact nameC_no (by omega) (by omega) (by omega) (by omega)))
          go_wp2
          go_ret
          exact ⟨by rw [HJ.out]; rfl, rfl⟩
      · have h1i : ¬ (97 : Int) ≤ (t[k].toNat : Int) := by omega
        by_cases h3 : 48 ≤ t[k].toNat
        · have h3i : (48 : Int) ≤ (t[k].toNat : Int) := by omega
          by_cases h4 : t[k].toNat ≤ 57
          · have h4i : (t[k].toNat : Int) ≤ (57 : Int) := by omega
            have HN : Hid ((t.data.toList.take (k + 1)).all (nameSet.contains ·) = true) := Lib.hid (all_next hkl' hall.out (by rw [HG.out]; exact nameC_yes (by omega)))
            go_wp2
            go_round
            case rel => exact ⟨k + 1, by go_num, hkl, HN⟩
            case measure => simp [RowKit.intOf]; omega
          · have h4i : ¬ (t[k].toNat : Int) ≤ (57 : Int) := by omega
            have q46 : ((t[k].toNat : Int) != 46) = true := by simp; omega
            have q45 : ((t[k].toNat : Int) != 45) = true := by simp; omega
            have HJ : Hid (isName t.data.toList = false) := Lib.hid (all_hit hkl' (by rw [HG.out]; exact nameC_no (by omega) (by omega) (by omega) (by omega)))
            go_wp2
            go_ret
            exact ⟨by rw [HJ.out]; rfl, rfl⟩
        · have h3i : ¬ (48 : Int) ≤ (t[k].toNat : Int) := by omega
          by_cases h5 : t[k].toNat = 46
          · have h5i : ((t[k].toNat : Int) != 46) = false := by rw [h5]; rfl
            have HN : Hid ((t.data.toList.take (k + 1)).all (nameSet.contains ·) = true) := Lib.hid (all_next hkl' hall.out (by rw [HG.out]; exact nameC_yes (by omega)))
            go_wp2
            go_round
            case rel => exact ⟨k + 1, by go_num, hkl, HN⟩
            case measure => simp [RowKit.intOf]; omega
          · have h5i : ((t[k].toNat : Int) != 46) = true := by simp; omega
            by_cases h6 : t[k].toNat = 45
            · have h6i : ((t[k].toNat : Int) != 45) = false := by rw [h6]; rfl
              have HN : Hid ((t.data.toList.take (k + 1)).all (nameSet.contains ·) = true) := Lib.hid (all_next hkl' hall.out (by rw [HG.out]; exact nameC_yes (by omega)))
              go_wp2
              go_round
              case rel => exact ⟨k + 1, by go_num, hkl, HN⟩
              case measure => simp [RowKit.intOf]; omega
            · have h6i : ((t[k].toNat : Int) != 45) = true := by simp; omega
              have HJ : Hid (isName t.data.toList = false) := Lib.hid (all_hit hkl' (by rw [HG.out]; exact nameC_no (by omega) (by omega) (by omega) (by omega)))
              go_wp2
              go_ret
              exact ⟨by rw [HJ.out]; rfl, rfl⟩
    · obtain rfl : k = t.size := by omega
      have HA : Hid (t.data.toList.all (nameSet.contains ·) = true) := Lib.hid (by
        have h := hall.out
        rwa [HZ.out, List.take_of_length_le (Nat.le_refl _)] at h)
      by_cases h1 : 1 ≤ t.size
      · have h1i : (1 : Int) ≤ (t.size : Int) := by omega
        by_cases h12 : t.size ≤ 12
        · have h12i : (t.size : Int) ≤ 12 := by omega
          have HJ : Hid (isName t.data.toList = true) := Lib.hid (by unfold isName; rw [HA.out, decide_eq_true (show 1 ≤ t.data.toList.length by rw [← HZ.out]; exact h1), decide_eq_true (show t.data.toList.length ≤ 12 by rw [← HZ.out]; exact h12)]; rfl)
          go_wp2
          go_ret
          exact ⟨by rw [HJ.out]; rfl, rfl⟩
        · have h12i : ¬ (t.size : Int) ≤ 12 := by omega
          have HJ : Hid (isName t.data.toList = false) := Lib.hid (by unfold isName; rw [decide_eq_false (show ¬ t.data.toList.length ≤ 12 by rw [← HZ.out]; exact h12), Bool.and_false, Bool.false_and])
          go_wp2
          go_ret
          exact ⟨by rw [HJ.out]; rfl, rfl⟩
      · have h1i : ¬ (1 : Int) ≤ (t.size : Int) := by omega
        have HJ : Hid (isName t.data.toList = false) := Lib.hid (by unfold isName; rw [decide_eq_false (show ¬ 1 ≤ t.data.toList.length by rw [← HZ.out]; exact h1), Bool.false_and, Bool.false_and])
        go_wp2
        go_ret
        exact ⟨by rw [HJ.out]; rfl, rfl⟩
end Go.Proofs.YtbokckjlgjnnjaaGreatDoor

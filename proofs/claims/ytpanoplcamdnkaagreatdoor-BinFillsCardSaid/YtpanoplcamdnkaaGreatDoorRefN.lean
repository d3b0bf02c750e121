/- Walk of the reference's NumberOf. No conditions but bounds. -/
import Derived.Test.YtpanoplcamdnkaaGreatDoorPlainH
namespace Go.Proofs.YtpanoplcamdnkaaGreatDoor
open Go.RowKit Go.Lib

def numZ (l : Bytes) (m : Nat) : Int := match numR l m with
  | some k => (k : Int)
  | none => -1
theorem numZ_bad {l : Bytes} {m : Nat} (h : l.length < 1 ∨ m < l.length ∨ (1 < l.length ∧ l.headD 0 = 48)) : numZ l m = -1 := by unfold numZ numR; rw [if_pos h]
theorem numZ_dec {l : Bytes} {m : Nat} (h : ¬ (l.length < 1 ∨ m < l.length ∨ (1 < l.length ∧ l.headD 0 = 48))) : numZ l m = match decFrom 0 l with | some k => (k : Int) | none => -1 := by unfold numZ numR; rw [if_neg h]
theorem headD_of (t : ByteArray) (h : 0 < t.size) : t.data.toList.headD 0 = t[0] := by
  have hl : 0 < t.data.toList.length := by rw [← size_toList]; exact h
  cases hq : t.data.toList with
  | nil => rw [hq] at hl; simp at hl
  | cons c r =>
    have : t.data.toList[0] = c := by simp [hq]
    show c = t[0]
    rw [← this]; rfl
theorem drop_of (t : ByteArray) (k : Nat) (h : k < t.size) : t.data.toList.drop k = t[k] :: t.data.toList.drop (k + 1) := by
  have hl : k < t.data.toList.length := by rw [← size_toList]; exact h
  rw [List.drop_eq_getElem_cons hl]; rfl
theorem decFrom_yes {acc : Nat} {c : UInt8} {r : Bytes} (h0 : 48 ≤ c.toNat) (h1 : c.toNat ≤ 57) : decFrom acc (c :: r) = decFrom (acc * 10 + (c.toNat - 48)) r := by
  show (match digitVal c with | some d => decFrom (acc * 10 + d) r | none => none) = _
  unfold digitVal; rw [if_pos ⟨h0, h1⟩]
theorem decFrom_no {acc : Nat} {c : UInt8} {r : Bytes} (h : ¬ (48 ≤ c.toNat ∧ c.toNat ≤ 57)) : decFrom acc (c :: r) = none := by
  show (match digitVal c with | some d => decFrom (acc * 10 + d) r | none => none) = _
  unfold digitVal; rw [if_neg h]
set_option maxRecDepth 100000 in
set_option maxHeartbeats 1000000 in
theorem RNumberOf_any (t : ByteArray) (m : Nat) (hm : m ≤ 17) (w : World) :
    Calls Tryz.prog 90 #[.string t, .int .i64 (m : Int)] w fun e w' => e = .returned (.int .i64 (numZ t.data.toList m)) ∧ w = w' := by
  have hsz := size_toList t
  by_cases h1 : t.size < 1
  · have HJ := Lib.hid (numZ_bad (m := m) (l := t.data.toList) (.inl (by omega)))
    have h1i : (t.size : Int) < 1 := by omega
    clear hsz
    go_enter Tryz.func90, Tryz.ntmps90
    go_wp2
    go_ret
    exact ⟨by rw [HJ.out]; rfl, rfl⟩
  · have h1i : ¬ (t.size : Int) < 1 := by omega
    by_cases h2 : m < t.size
    · have HJ := Lib.hid (numZ_bad (m := m) (l := t.data.toList) (.inr (.inl (by omega))))
      have h2i : (m : Int) < (t.size : Int) := by omega
      clear hsz
      go_enter Tryz.func90, Tryz.ntmps90
      go_wp2
      go_ret
      exact ⟨by rw [HJ.out]; rfl, rfl⟩
    · have h2i : ¬ (m : Int) < (t.size : Int) := by omega
      have hh := headD_of t (by omega)
      have h0 : 0 < t.size := by omega
      by_cases h3 : 1 < t.size
      · have h3i : (1 : Int) < (t.size : Int) := by omega
        by_cases h4 : t[0] = 48
        · have HJ := Lib.hid (numZ_bad (m := m) (l := t.data.toList) (.inr (.inr ⟨by omega, by rw [hh, h4]⟩)))
          have h4i : ((t[0].toNat : Int) == 48) = true := by rw [h4]; rfl
          clear hsz hh
          go_enter Tryz.func90, Tryz.ntmps90
          go_wp2
          go_ret
          exact ⟨by rw [HJ.out]; rfl, rfl⟩
        · have HJ := Lib.hid (numZ_dec (m := m) (l := t.data.toList) (by rintro (h | h | ⟨_, h⟩); · omega
                                                                         · omega
                                                                         · rw [hh] at h; exact h4 h))
          have h4n : ¬ t[0].toNat = 48 := fun e => h4 (UInt8.toNat_inj.1 e)
          have h4i : ((t[0].toNat : Int) == 48) = false := by rw [beq_eq_false_iff_ne]; omega
          have HB := Lib.hid (show t.size ≤ 17 by omega)
          clear hsz hh
          go_enter Tryz.func90, Tryz.ntmps90
          go_wp2
          go_loop [5, 6] (fun vn vi => ∃ (k acc : Nat), vn = .int .i64 acc ∧ vi = .int .i64 k ∧ k ≤ t.size ∧ Hid (acc < 10 ^ k ∧ decFrom 0 t.data.toList = decFrom acc (t.data.toList.drop k))) (fun _ vi => t.size - (RowKit.intOf vi).toNat)
          case atStart => exact ⟨0, 0, rfl, rfl, by omega, Lib.hid ⟨by decide, rfl⟩⟩
          case round =>
            obtain ⟨k, acc, rfl, rfl, hk, hh0⟩ := hrel
            by_cases hkn : k < t.size
            · have hki : (k : Int) < (t.size : Int) := by omega
              have hki0 : (0 : Int) ≤ (k : Int) := by omega
              have hd := drop_of t k hkn
              have hacc : acc < 100000000000000000 := Nat.lt_of_lt_of_le hh0.out.1 (Nat.le_trans (Nat.pow_le_pow_right (by decide) (show k ≤ 17 from by have := HB.out; omega)) (by decide))
              have hc256 := t[k].toNat_lt
              by_cases hdig : 48 ≤ t[k].toNat ∧ t[k].toNat ≤ 57
              · obtain ⟨hd0, hd1⟩ := hdig
                have hi0 : ¬ (t[k].toNat : Int) < 48 := by omega
                have hi1 : ¬ (57 : Int) < (t[k].toNat : Int) := by omega
                have HD : Hid (acc * 10 + (t[k].toNat - 48) < 10 ^ (k + 1) ∧ decFrom 0 t.data.toList = decFrom (acc * 10 + (t[k].toNat - 48)) (t.data.toList.drop (k + 1))) := Lib.hid ⟨by have := hh0.out.1; rw [Nat.pow_succ]; omega, by rw [hh0.out.2, hd, decFrom_yes hd0 hd1]⟩
                clear hd hh0
                go_wp2
                go_round
                case rel => exact ⟨k + 1, acc * 10 + (t[k].toNat - 48), by go_num, by go_num, hkn, HD⟩
                case measure => simp [RowKit.intOf]; omega
              · have HE := Lib.hid (hh0.out.2.trans (by rw [hd, decFrom_no hdig]))
                clear hd hh0
                by_cases hi0 : t[k].toNat < 48
                · have hi0' : (t[k].toNat : Int) < 48 := by omega
                  go_wp2
                  go_ret
                  exact ⟨by rw [HJ.out, HE.out]; rfl, rfl⟩
                · have hi0' : ¬ (t[k].toNat : Int) < 48 := by omega
                  have hi1' : (57 : Int) < (t[k].toNat : Int) := by omega
                  go_wp2
                  go_ret
                  exact ⟨by rw [HJ.out, HE.out]; rfl, rfl⟩
            · obtain rfl : k = t.size := by omega
              have hn : decFrom 0 t.data.toList = some acc := by rw [hh0.out.2, List.drop_eq_nil_of_le (by rw [← size_toList]; exact Nat.le_refl _)]; rfl
              have HN := Lib.hid hn
              clear hn hh0
              go_wp2
              go_ret
              exact ⟨by rw [HJ.out, HN.out]; rfl, rfl⟩
      · have HJ := Lib.hid (numZ_dec (m := m) (l := t.data.toList) (by rintro (h | h | ⟨h, _⟩) <;> omega))
        have h3i : ¬ (1 : Int) < (t.size : Int) := by omega
        have HB := Lib.hid (show t.size ≤ 17 by omega)
        clear hsz hh
        go_enter Tryz.func90, Tryz.ntmps90
        go_wp2
        go_loop [5, 6] (fun vn vi => ∃ (k acc : Nat), vn = .int .i64 acc ∧ vi = .int .i64 k ∧ k ≤ t.size ∧ Hid (acc < 10 ^ k ∧ decFrom 0 t.data.toList = decFrom acc (t.data.toList.drop k))) (fun _ vi => t.size - (RowKit.intOf vi).toNat)
        case atStart => exact ⟨0, 0, rfl, rfl, by omega, Lib.hid ⟨by decide, rfl⟩⟩
        case round =>
          obtain ⟨k, acc, rfl, rfl, hk, hh0⟩ := hrel
          by_cases hkn : k < t.size
          · have hki : (k : Int) < (t.size : Int) := by omega
            have hki0 : (0 : Int) ≤ (k : Int) := by omega
            have hd := drop_of t k hkn
            have hacc : acc < 100000000000000000 := Nat.lt_of_lt_of_le hh0.out.1 (Nat.le_trans (Nat.pow_le_pow_right (by decide) (show k ≤ 17 from by have := HB.out; omega)) (by decide))
            have hc256 := t[k].toNat_lt
            by_cases hdig : 48 ≤ t[k].toNat ∧ t[k].toNat ≤ 57
            · obtain ⟨hd0, hd1⟩ := hdig
              have hi0 : ¬ (t[k].toNat : Int) < 48 := by omega
              have hi1 : ¬ (57 : Int) < (t[k].toNat : Int) := by omega
              have HD : Hid (acc * 10 + (t[k].toNat - 48) < 10 ^ (k + 1) ∧ decFrom 0 t.data.toList = decFrom (acc * 10 + (t[k].toNat - 48)) (t.data.toList.drop (k + 1))) := Lib.hid ⟨by have := hh0.out.1; rw [Nat.pow_succ]; omega, by rw [hh0.out.2, hd, decFrom_yes hd0 hd1]⟩
              clear hd hh0
              go_wp2
              go_round
              case rel => exact ⟨k + 1, acc * 10 + (t[k].toNat - 48), by go_num, by go_num, hkn, HD⟩
              case measure => simp [RowKit.intOf]; omega
            · have HE := Lib.hid (hh0.out.2.trans (by rw [hd, decFrom_no hdig]))
              clear hd hh0
              by_cases hi0 : t[k].toNat < 48
              · have hi0' : (t[k].toNat : Int) < 48 := by omega
                go_wp2
                go_ret
                exact ⟨by rw [HJ.out, HE.out]; rfl, rfl⟩
              · have hi0' : ¬ (t[k].toNat : Int) < 48 := by omega
                have hi1' : (57 : Int) < (t[k].toNat : Int) := by omega
                go_wp2
                go_ret
                exact ⟨by rw [HJ.out, HE.out]; rfl, rfl⟩
          · obtain rfl : k = t.size := by omega
            have hn : decFrom 0 t.data.toList = some acc := by rw [hh0.out.2, List.drop_eq_nil_of_le (by rw [← size_toList]; exact Nat.le_refl _)]; rfl
            have HN := Lib.hid hn
            clear hn hh0
            go_wp2
            go_ret
            exact ⟨by rw [HJ.out, HN.out]; rfl, rfl⟩
end Go.Proofs.YtpanoplcamdnkaaGreatDoor

/- Walks of SameInts, SameTexts (are two slices the same?), InInts. Condition: lengths below 2^62. -/
import Derived.Test.YtpanoplcamdnkaaGreatDoorPlainA
import Derived.Test.YtpanoplcamdnkaaGreatDoorRead
import Derived.Test.YtpanoplcamdnkaaGreatDoorChecked
import Derived.WalkKit
import Derived.Handy
import Derived.Lib.Hide
import Derived.Deep.QuietTactic
import Derived.BigQuiet
namespace Go.Proofs.YtpanoplcamdnkaaGreatDoor
open Go.RowKit Go.Lib

abbrev VZ (n : Int) : Value := .int .i64 n
theorem take_snoc {α : Type} {xs ys : List α} {k : Nat} (h : xs.take k = ys.take k) (hx : k < xs.length) (hy : k < ys.length) (e : xs[k] = ys[k]) : xs.take (k + 1) = ys.take (k + 1) := by
  rw [List.take_succ_eq_append_getElem hx, List.take_succ_eq_append_getElem hy, h, e]

abbrev VT (b : Bytes) : Value := .string (bs b)
set_option maxRecDepth 100000 in
set_option maxHeartbeats 1000000 in
theorem SameTexts_any (va vb : Value) (xs ys : List Bytes) (B : Nat) (w : World) (ha : Rd w B va (xs.map VT)) (hb : Rd w B vb (ys.map VT)) (hx : xs.length ≤ 2 ^ 62) (hy : ys.length ≤ 2 ^ 62) :
    Calls Tryz.prog 100 #[va, vb] w fun e w' => e = .returned (.bool (decide (xs = ys))) ∧ ∃ n, w' = w.drewN n := by
  obtain ⟨A, c, rfl, _, ha⟩ := ha
  obtain ⟨A', c', rfl, _, hb⟩ := hb
  rw [List.length_map, List.length_map]
  by_cases hl : xs.length = ys.length
  · by_cases h0 : xs.length = 0
    · have e1 : xs = [] := List.eq_nil_of_length_eq_zero h0
      have e2 : ys = [] := List.eq_nil_of_length_eq_zero (by omega)
      subst e1; subst e2
      go_enter Tryz.func100, Tryz.ntmps100
      go_wp2
      go_rounds 1
      go_ret
      exact ⟨rfl, 0, rfl⟩
    · obtain ⟨g, o, rfl, _, hca⟩ := ha (by intro h; apply h0; rw [← List.length_map (f := VT), h]; rfl)
      obtain ⟨g', o', rfl, _, hcb⟩ := hb (by intro h; apply h0; rw [hl, ← List.length_map (f := VT), h]; rfl)
      have HA := Lib.hid hca
      have HB := Lib.hid hcb
      have HL := Lib.hid hl
      have hl1 : ((xs.length : Int) != (ys.length : Int)) = false := by rw [hl]; simp
      have hl2 := Nat.le_of_eq hl
      have hl3 := Nat.le_of_eq hl.symm
      clear hca hcb hl h0 ha hb
      go_enter Tryz.func100, Tryz.ntmps100
      go_wp2
      go_loopw [5] (fun vi wr => ∃ (k m : Nat), vi = .int .i64 k ∧ k ≤ xs.length ∧ wr = w.drewN m ∧ Hid (xs.take k = ys.take k)) (fun vi _ => xs.length - (RowKit.intOf vi).toNat)
      case atStart => exact ⟨0, 0, rfl, Nat.zero_le _, rfl, rfl⟩
      case round =>
        obtain ⟨k, m, rfl, hk, rfl, ht⟩ := hrel
        by_cases hlt : k < xs.length
        · have hlt' : k < ys.length := by omega
          have c1 : w.cell? ⟨g, o + k, none⟩ = some (.string (bs xs[k])) := HA.out k _ (by simp [hlt])
          have c2 : w.cell? ⟨g', o' + k, none⟩ = some (.string (bs ys[k])) := HB.out k _ (by simp [hlt'])
          have b1 : (0 : Int) ≤ (k : Int) := by omega
          have b2 : (k : Int) < (xs.length : Int) := by omega
          have b3 : (k : Int) < (ys.length : Int) := by omega
          by_cases he : xs[k] = ys[k]
          · have hq : ((bs xs[k]).toList == (bs ys[k]).toList) = true := by rw [bs_beq]; simpa using he
            have HE := Lib.hid he
            clear he
            go_wp2
            go_quiet (fail)
            go_wp2
            go_roundw
            case rel => exact ⟨k + 1, _, by go_num, by omega, rfl, take_snoc ht.out hlt hlt' HE.out⟩
            case measure => simp [RowKit.intOf]; omega
          · have hq : ((bs xs[k]).toList == (bs ys[k]).toList) = false := by rw [bs_beq]; simpa using he
            have hne : decide (xs = ys) = false := by
              rw [decide_eq_false_iff_not]; rintro rfl; exact he rfl
            have HN := Lib.hid hne
            clear he hne
            go_wp2
            go_quiet (fail)
            go_wp2
            go_ret
            exact ⟨by rw [HN.out]; rfl, _, World.drewN_drewN _ _ _⟩
        · obtain rfl : k = xs.length := by omega
          have hq : decide (xs = ys) = true := by
            have h := ht.out
            rw [List.take_of_length_le (Nat.le_refl _), List.take_of_length_le (by omega)] at h
            simpa using h
          have HQ := Lib.hid hq
          clear hq
          go_wp2
          go_ret
          exact ⟨by rw [HQ.out]; rfl, _, rfl⟩
  · have hne : decide (xs = ys) = false := by
      rw [decide_eq_false_iff_not]; rintro rfl; exact hl rfl
    rw [hne]
    have hl1 : ((xs.length : Int) != (ys.length : Int)) = true := by simp; omega
    go_enter Tryz.func100, Tryz.ntmps100
    go_wp2
    go_ret
    exact ⟨rfl, 0, rfl⟩
end Go.Proofs.YtpanoplcamdnkaaGreatDoor

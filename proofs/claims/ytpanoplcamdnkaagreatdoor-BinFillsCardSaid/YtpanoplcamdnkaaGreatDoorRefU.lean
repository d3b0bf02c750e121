/- Walk of the reference's Unhex. No conditions. -/
import Derived.Test.YtpanoplcamdnkaaGreatDoorPlainH
import Derived.Test.YtpanoplcamdnkaaGreatDoorRefN
namespace Go.Proofs.YtpanoplcamdnkaaGreatDoor
open Go.RowKit Go.Lib

/-- the number and whether it is one -/
def hexRes (o : Option Nat) : Value := match o with
  | some n => .tuple #[.int .u32 (n : Int), .bool true]
  | none => .tuple #[.int .u32 0, .bool false]
theorem unhexAux_yes {acc d : Nat} {c : UInt8} {r : Bytes} (h : lowHex c = some d) : unhexAux acc (c :: r) = unhexAux (16 * acc + d) r := by
  show (match lowHex c with | some d => unhexAux (16 * acc + d) r | none => none) = _
  rw [h]
theorem unhexAux_no {acc : Nat} {c : UInt8} {r : Bytes} (h : lowHex c = none) : unhexAux acc (c :: r) = none := by
  show (match lowHex c with | some d => unhexAux (16 * acc + d) r | none => none) = _
  rw [h]
set_option maxRecDepth 100000 in
set_option maxHeartbeats 1000000 in
theorem RUnhex_any (t : ByteArray) (ht : t.size ≤ 2 ^ 40) (w : World) :
    Calls Tryz.prog 142 #[.string t] w fun e w' => e = .returned (hexRes (unhexOf t.data.toList)) ∧ w = w' := by
  rw [← unhexR_eq]
  have hsz := size_toList t
  by_cases h8 : t.size = 8
  · have HJ : Hid (unhexR t.data.toList = unhexAux 0 t.data.toList) := Lib.hid (by unfold unhexR; rw [if_pos (by omega)])
    have h8i : ((t.size : Int) == 8) = true := by rw [beq_iff_eq]; omega
    have HZ := Lib.hid h8
    clear hsz
    go_enter Tryz.func142, Tryz.ntmps142
    go_wp2
    go_loop [4, 5] (fun vn vi => ∃ (k acc : Nat), vn = .int .i64 acc ∧ vi = .int .i64 k ∧ k ≤ 8 ∧ Hid (acc < 16 ^ k ∧ unhexAux 0 t.data.toList = unhexAux acc (t.data.toList.drop k))) (fun _ vi => 8 - (RowKit.intOf vi).toNat)
    case atStart => exact ⟨0, 0, rfl, rfl, by omega, Lib.hid ⟨by decide, rfl⟩⟩
    case round =>
      obtain ⟨k, acc, rfl, rfl, hk, hh0⟩ := hrel
      by_cases hkn : k < 8
      · have hkt : k < t.size := by omega
        have hki : (k : Int) < (t.size : Int) := by omega
        have hki0 : (0 : Int) ≤ (k : Int) := by omega
        have hd := drop_of t k hkt
        have hacc : acc < 268435456 := Nat.lt_of_lt_of_le hh0.out.1 (Nat.le_trans (Nat.pow_le_pow_right (by decide) (show k ≤ 7 from by omega)) (by decide))
        have hc256 := t[k].toNat_lt
        by_cases hdig : 48 ≤ t[k].toNat ∧ t[k].toNat ≤ 57
        · obtain ⟨hd0, hd1⟩ := hdig
          have hi0 : (48 : Int) ≤ (t[k].toNat : Int) := by omega
          have hi1 : (t[k].toNat : Int) ≤ 57 := by omega
          have hi2 : ¬ (97 : Int) ≤ (t[k].toNat : Int) := by omega
          have hl : lowHex t[k] = some (t[k].toNat - 48) := by unfold lowHex; rw [if_pos ⟨hd0, hd1⟩]
          have HD : Hid (16 * acc + (t[k].toNat - 48) < 16 ^ (k + 1) ∧ unhexAux 0 t.data.toList = unhexAux (16 * acc + (t[k].toNat - 48)) (t.data.toList.drop (k + 1))) := Lib.hid ⟨by have := hh0.out.1; rw [Nat.pow_succ]; omega, by rw [hh0.out.2, hd, unhexAux_yes hl]⟩
          clear hd hh0 hl
          go_wp2
          go_round
          case rel => exact ⟨k + 1, 16 * acc + (t[k].toNat - 48), by go_num, by go_num, hkn, HD⟩
          case measure => simp [RowKit.intOf]; omega
        · by_cases hlet : 97 ≤ t[k].toNat ∧ t[k].toNat ≤ 102
          · obtain ⟨hd0, hd1⟩ := hlet
            have hi0 : (48 : Int) ≤ (t[k].toNat : Int) := by omega
            have hi1 : ¬ (t[k].toNat : Int) ≤ 57 := by omega
            have hi2 : (97 : Int) ≤ (t[k].toNat : Int) := by omega
            have hi3 : (t[k].toNat : Int) ≤ 102 := by omega
            have hl : lowHex t[k] = some (t[k].toNat - 87) := by unfold lowHex; rw [if_neg hdig, if_pos ⟨hd0, hd1⟩]
            have HD : Hid (16 * acc + (t[k].toNat - 87) < 16 ^ (k + 1) ∧ unhexAux 0 t.data.toList = unhexAux (16 * acc + (t[k].toNat - 87)) (t.data.toList.drop (k + 1))) := Lib.hid ⟨by have := hh0.out.1; rw [Nat.pow_succ]; omega, by rw [hh0.out.2, hd, unhexAux_yes hl]⟩
            clear hd hh0 hl hdig
            go_wp2
            go_round
            case rel => exact ⟨k + 1, 16 * acc + (t[k].toNat - 87), by go_num, by go_num, hkn, HD⟩
            case measure => simp [RowKit.intOf]; omega
          · have hl : lowHex t[k] = none := by unfold lowHex; rw [if_neg hdig, if_neg hlet]
            have HE := Lib.hid (hh0.out.2.trans (by rw [hd, unhexAux_no hl]))
            have g1 : t[k].toNat < 48 ∨ (57 < t[k].toNat ∧ t[k].toNat < 97) ∨ 102 < t[k].toNat := by omega
            clear hd hh0 hl hdig hlet
            rcases g1 with g | ⟨g, g'⟩ | g
            · have hi0 : ¬ (48 : Int) ≤ (t[k].toNat : Int) := by omega
              have hi2 : ¬ (97 : Int) ≤ (t[k].toNat : Int) := by omega
              go_wp2
              go_ret2
              exact ⟨by rw [HJ.out, HE.out]; rfl, rfl⟩
            · have hi0 : (48 : Int) ≤ (t[k].toNat : Int) := by omega
              have hi1 : ¬ (t[k].toNat : Int) ≤ 57 := by omega
              have hi2 : ¬ (97 : Int) ≤ (t[k].toNat : Int) := by omega
              go_wp2
              go_ret2
              exact ⟨by rw [HJ.out, HE.out]; rfl, rfl⟩
            · have hi0 : (48 : Int) ≤ (t[k].toNat : Int) := by omega
              have hi1 : ¬ (t[k].toNat : Int) ≤ 57 := by omega
              have hi2 : (97 : Int) ≤ (t[k].toNat : Int) := by omega
              have hi3 : ¬ (t[k].toNat : Int) ≤ 102 := by omega
              go_wp2
              go_ret2
              exact ⟨by rw [HJ.out, HE.out]; rfl, rfl⟩
      · obtain rfl : k = 8 := by omega
        have hacc : acc < 4294967296 := by have := hh0.out.1; omega
        have hn : unhexAux 0 t.data.toList = some acc := by rw [hh0.out.2, List.drop_eq_nil_of_le (by rw [← size_toList]; omega)]; rfl
        have HN := Lib.hid hn
        clear hn hh0
        go_wp2
        go_ret2
        exact ⟨by rw [HJ.out, HN.out]; rfl, rfl⟩
  · have HJ : Hid (unhexR t.data.toList = none) := Lib.hid (by unfold unhexR; rw [if_neg (by omega)])
    have h8i : ((t.size : Int) == 8) = false := by rw [beq_eq_false_iff_ne]; omega
    clear hsz h8
    go_enter Tryz.func142, Tryz.ntmps142
    go_wp2
    go_ret2
    exact ⟨by rw [HJ.out]; rfl, rfl⟩
end Go.Proofs.YtpanoplcamdnkaaGreatDoor

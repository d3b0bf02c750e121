/- Walk of internal/strconv.ParseUint at base 16, 32 bits, at every string. Condition: the length below 2^40. -/
import Derived.Test.YtbokckjlgjnnjaaGreatDoorPrQ
import Derived.Test.YtbokckjlgjnnjaaGreatDoorShelf
import Derived.Lib.ConvBytes
import Derived.Lib.AtoiErrMem
namespace Go.Proofs.YtbokckjlgjnnjaaGreatDoor
open Go.RowKit Go.Lib

theorem or32 (c : UInt8) : bits .or .u8 (c.toNat : Int) 32 = ((c.toNat ||| 32 : Nat) : Int) := by
  have h : ∀ i : Fin 256, bits .or .u8 (i.1 : Int) 32 = ((i.1 ||| 32 : Nat) : Int) := by decide +kernel
  exact h ⟨c.toNat, c.toNat_lt⟩
theorem or32_lt (c : UInt8) : c.toNat ||| 32 < 256 := Nat.or_lt_two_pow (n := 8) c.toNat_lt (by decide)
theorem hexVal_digit (c : UInt8) (h0 : 48 ≤ c.toNat) (h1 : c.toNat ≤ 57) : hexVal c = some (c.toNat - 48) := by unfold hexVal; rw [if_pos ⟨h0, h1⟩]
theorem hexVal_letter (c : UInt8) (h : ¬ (48 ≤ c.toNat ∧ c.toNat ≤ 57)) (h0 : 97 ≤ c.toNat ||| 32) (h1 : c.toNat ||| 32 ≤ 122) : hexVal c = some ((c.toNat ||| 32) - 87) := by unfold hexVal; rw [if_neg h, if_pos ⟨h0, h1⟩]
theorem hexVal_none (c : UInt8) (h : ¬ (48 ≤ c.toNat ∧ c.toNat ≤ 57)) (h0 : ¬ (97 ≤ c.toNat ||| 32 ∧ c.toNat ||| 32 ≤ 122)) : hexVal c = none := by unfold hexVal; rw [if_neg h, if_neg h0]
theorem parse16_some {acc : Nat} {c : UInt8} {r : Bytes} {d : Nat} (h : hexVal c = some d) (hd : d < 16) (ho : acc * 16 + d < 4294967296) : parse16 acc (c :: r) = parse16 (acc * 16 + d) r := by
  simp only [parse16, h]; rw [if_neg (by omega), if_neg (by omega)]
theorem parse16_over {acc : Nat} {c : UInt8} {r : Bytes} {d : Nat} (h : hexVal c = some d) (hd : d < 16) (ho : 4294967296 ≤ acc * 16 + d) : parse16 acc (c :: r) = .error true := by
  simp only [parse16, h]; rw [if_neg (by omega), if_pos ho]
theorem parse16_big {acc : Nat} {c : UInt8} {r : Bytes} {d : Nat} (h : hexVal c = some d) (hd : 16 ≤ d) : parse16 acc (c :: r) = .error false := by
  simp only [parse16, h]; rw [if_pos hd]
theorem parse16_none {acc : Nat} {c : UInt8} {r : Bytes} (h : hexVal c = none) : parse16 acc (c :: r) = .error false := by
  simp only [parse16, h]
/-- the number and the error that come back -/
def ParseRes (e : Except Bool Nat) (x : Int) (r : Value) : Prop :=
  (∃ n, e = .ok n ∧ x = (n : Int) ∧ r = .nilIface) ∨ (e = .error false ∧ x = 0 ∧ r = .iface 234 (.int .i64 2)) ∨ (e = .error true ∧ x = 4294967295 ∧ r = .iface 234 (.int .i64 1))
set_option maxRecDepth 100000 in
set_option maxHeartbeats 4000000 in
theorem IParseUint_16 (t : ByteArray) (ht : t.size ≤ 2 ^ 40) (w : World) :
    Calls Tryz.prog 140 #[.string t, .int .i64 16, .int .i64 32] w fun e w' => ∃ x r, e = .returned (.tuple #[.int .u64 x, r]) ∧ ParseRes (parseHex t.data.toList) x r ∧ Below w.heap.size w w' := by
  by_cases h0 : t.size = 0
  · have hl : t.data.toList = [] := by
      have := size_toList t
      exact List.eq_nil_of_length_eq_zero (by omega)
    have e0 : t = ⟨#[]⟩ := ba_ext (by rw [hl])
    subst e0
    go_enter Tryz.func140, Tryz.ntmps140
    go_wp2
    go_ret2
    exact ⟨_, _, rfl, .inr (.inl ⟨rfl, rfl, rfl⟩), Below.refl _ _⟩
  · have hpos : t.data.toList ≠ [] := fun e => by
      have := size_toList t
      rw [e, List.length_nil] at this; exact h0 this
    have hne : t.toList.isEmpty = false := by
      rw [ByteArray.toList_eq]
      cases hq : t.data.toList with
      | nil => exact absurd hq hpos
      | cons _ _ => rfl
    obtain ⟨bl, hbl⟩ : ∃ bl, t.data.toList = bl := ⟨_, rfl⟩
    have hbs : bl.length = t.size := by rw [← hbl, size_toList]
    have hP : Hid (parseHex t.data.toList = parse16 0 bl) := Lib.hid (by rw [← hbl]; unfold parseHex; rw [if_neg hpos])
    have hcv := Lib.run_convert_string_bytes (P := Tryz.prog) w 9 139 5 t (u := .string) Tryz.underlying9 Tryz.underlying139 Tryz.underlying5
    have hB : ∀ j, (hj : j < t.size) → (Lib.bytesWorld w 5 t).cell? ⟨w.heap.size, j, none⟩ = some (.int .u8 (bl.getD j 0).toNat) := fun j hj => by rw [← hbl]; exact Lib.bytesWorld_cell w 5 t j hj
    have hb := Lib.bytesWorld_below w 5 t
    go_enter Tryz.func140, Tryz.ntmps140
    go_wp2
    have HBS := Lib.hid hbs
    have HBB := Lib.hid hB
    clear hbl hbs hB hcv hpos hne h0
    generalize Lib.bytesWorld w 5 t = W1 at *
    go_loop [12, 13, 101] (fun vu vn vi => ∃ (k acc : Nat) (a : Int), vu = .bool false ∧ vn = .int .u64 a ∧ vi = .int .i64 k ∧ k ≤ t.size ∧ Hid (a = (acc : Int) ∧ acc < 4294967296 ∧ parse16 0 bl = parse16 acc (bl.drop k))) (fun _ _ vi => t.size - (RowKit.intOf vi).toNat)
    case atStart => exact ⟨0, 0, 0, rfl, rfl, rfl, by omega, rfl, by omega, rfl⟩
    case round =>
      obtain ⟨k, acc, a, rfl, rfl, rfl, hk, hh0⟩ := hrel
      obtain ⟨ha, hacc, hh⟩ := hh0.out
      have a0 : 0 ≤ a := by omega
      have a1 : a < 4294967296 := by omega
      clear hh0
      by_cases hkn : k < t.size
      · have hkb : k < bl.length := by rw [HBS.out]; exact hkn
        have hc := HBB.out k hkn
        have hdrop : bl.drop k = bl[k] :: bl.drop (k + 1) := List.drop_eq_getElem_cons hkb
        have hget : bl.getD k 0 = bl[k] := by simp [List.getD, List.getElem?_eq_getElem hkb]
        have hdec := hh
        rw [hdrop] at hdec
        rw [hget] at hc
        generalize bl[k] = c at hc hdec
        have hc256 : c.toNat < 256 := c.toNat_lt
        have hor := or32 c
        have horl := or32_lt c
        clear hdrop hget hh hkb
        by_cases hdig : 48 ≤ c.toNat ∧ c.toNat ≤ 57
        · obtain ⟨hd0, hd1⟩ := hdig
          have hv := hexVal_digit c hd0 hd1
          have hnu : ((c.toNat : Int) == 95) = false := by rw [beq_eq_false_iff_ne]; omega
          by_cases hov : 4294967296 ≤ acc * 16 + (c.toNat - 48)
          · have HD := Lib.hid (hdec.trans (parse16_over hv (by omega) hov))
            have iov : (4294967295 : Int) < a * 16 + ((c.toNat : Int) - 48) := by omega
            clear hdec hv hov hor horl ha hacc
            go_wp2
            go_ret2
            exact ⟨_, _, rfl, .inr (.inr ⟨by rw [hP.out]; exact HD.out, rfl, rfl⟩), hb⟩
          · have HD := Lib.hid (hdec.trans (parse16_some hv (by omega) (by omega)))
            have iov : ¬ (4294967295 : Int) < a * 16 + ((c.toNat : Int) - 48) := by omega
            have hq : a * 16 + ((c.toNat : Int) - 48) = ((acc * 16 + (c.toNat - 48) : Nat) : Int) := by omega
            have HQ : Hid (a * 16 + ((c.toNat : Int) - 48) = ((acc * 16 + (c.toNat - 48) : Nat) : Int) ∧ acc * 16 + (c.toNat - 48) < 4294967296 ∧ parse16 0 bl = parse16 (acc * 16 + (c.toNat - 48)) (bl.drop (k + 1))) := Lib.hid ⟨hq, by omega, HD.out⟩
            clear hdec hv hov hor horl hq ha hacc
            go_wp2
            go_round
            case rel => exact ⟨k + 1, acc * 16 + (c.toNat - 48), a * 16 + ((c.toNat : Int) - 48), rfl, by first | rfl | (congr 1; omega), by go_num, hkn, HQ⟩
            case measure => simp [RowKit.intOf]; omega
        · have hnd := hdig
          by_cases hlet : 97 ≤ c.toNat ||| 32 ∧ c.toNat ||| 32 ≤ 122
          · obtain ⟨hm0, hm1⟩ := hlet
            have hv := hexVal_letter c hnd hm0 hm1
            have hnu : ((c.toNat : Int) == 95) = false := by
              rw [beq_eq_false_iff_ne]
              intro e
              have e2 : c.toNat = 95 := by omega
              rw [e2] at hm1; revert hm1; decide
            have hnd1 : ¬ (48 : Int) ≤ (c.toNat : Int) ∨ ¬ (c.toNat : Int) ≤ 57 := by omega
            generalize c.toNat ||| 32 = m at *
            by_cases hbig : 16 ≤ m - 87
            · have HD := Lib.hid (hdec.trans (parse16_big hv hbig))
              have ib : (103 : Int) ≤ (m : Int) := by omega
              clear hdec hv hbig hdig hnd ha hacc
              go_wp2_with (go_at_call 177; refine (Tryz.internal_strconv_lower _ _).mono ?_; rintro e w' ⟨rfl, rfl⟩)
              all_goals go_ret2
              all_goals exact ⟨_, _, rfl, .inr (.inl ⟨by rw [hP.out]; exact HD.out, rfl, rfl⟩), hb⟩
            · by_cases hov : 4294967296 ≤ acc * 16 + (m - 87)
              · have HD := Lib.hid (hdec.trans (parse16_over hv (by omega) hov))
                have ib : (m : Int) ≤ 102 := by omega
                have iov : (4294967295 : Int) < a * 16 + ((m : Int) - 87) := by omega
                clear hdec hv hbig hdig hnd hov ha hacc
                go_wp2_with (go_at_call 177; refine (Tryz.internal_strconv_lower _ _).mono ?_; rintro e w' ⟨rfl, rfl⟩)
                all_goals go_ret2
                all_goals exact ⟨_, _, rfl, .inr (.inr ⟨by rw [hP.out]; exact HD.out, rfl, rfl⟩), hb⟩
              · have HD := Lib.hid (hdec.trans (parse16_some hv (by omega) (by omega)))
                have ib : (m : Int) ≤ 102 := by omega
                have iov : ¬ (4294967295 : Int) < a * 16 + ((m : Int) - 87) := by omega
                have hq : a * 16 + ((m : Int) - 87) = ((acc * 16 + (m - 87) : Nat) : Int) := by omega
                have HQ : Hid (a * 16 + ((m : Int) - 87) = ((acc * 16 + (m - 87) : Nat) : Int) ∧ acc * 16 + (m - 87) < 4294967296 ∧ parse16 0 bl = parse16 (acc * 16 + (m - 87)) (bl.drop (k + 1))) := Lib.hid ⟨hq, by omega, HD.out⟩
                clear hdec hv hbig hdig hnd hov hq ha hacc
                go_wp2_with (go_at_call 177; refine (Tryz.internal_strconv_lower _ _).mono ?_; rintro e w' ⟨rfl, rfl⟩)
                all_goals exact ⟨⟨k + 1, acc * 16 + (m - 87), a * 16 + ((m : Int) - 87), rfl, by congr 1; omega, by go_num, hkn, HQ⟩, by simp [RowKit.intOf]; omega⟩
          · have HD := Lib.hid (hdec.trans (parse16_none (hexVal_none c hnd hlet)))
            generalize c.toNat ||| 32 = m at *
            have hu0 := bits_lo_u8 .or 95 32
            have hu1 := bits_hi_u8 .or 95 32
            have hml : ¬ ((97 : Int) ≤ (m : Int) ∧ (m : Int) ≤ 122) := by omega
            clear hdec hlet ha hacc
            go_wp2_with (go_at_call 177; refine (Tryz.internal_strconv_lower _ _).mono ?_; rintro e w' ⟨rfl, rfl⟩)
            all_goals go_ret2
            all_goals exact ⟨_, _, rfl, .inr (.inl ⟨by rw [hP.out]; exact HD.out, rfl, rfl⟩), hb⟩
      · obtain rfl : k = t.size := by omega
        have HD : Hid (parse16 0 bl = .ok acc) := Lib.hid (by rw [hh, List.drop_eq_nil_of_le (by rw [HBS.out]; exact Nat.le_refl _)]; rfl)
        have HA := Lib.hid ha
        clear ha hacc hh
        go_wp2
        go_ret2
        exact ⟨_, _, rfl, .inl ⟨acc, by rw [hP.out]; exact HD.out, HA.out, rfl⟩, hb⟩
end Go.Proofs.YtbokckjlgjnnjaaGreatDoor

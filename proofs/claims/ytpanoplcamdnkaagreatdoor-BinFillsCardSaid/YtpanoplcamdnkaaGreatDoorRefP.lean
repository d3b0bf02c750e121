/- Walks of the reference's Byte, below, Decimal, HexOf, IDText. No conditions but bounds. -/
import Derived.Test.YtpanoplcamdnkaaGreatDoorPrt1
import Derived.Test.YtpanoplcamdnkaaGreatDoorPrt2
import Derived.Lib.ItoaLen
namespace Go.Proofs.YtpanoplcamdnkaaGreatDoor
open Go.RowKit Go.Lib

theorem Byte_any (x : Int) (c : UInt8) (hx : x = (c.toNat : Int)) (w : World) :
    Calls Tryz.prog 187 #[.int .i64 x] w fun e w' => e = .returned (.string (bs [c])) ∧ Below w.heap.size w w' := by
  have hc : (convert 138 9 (.slice (some ⟨w.heap.size, 0, none⟩) 1 1)).run Tryz.prog (w.alloc (.cells #[.int .u8 x] 5)) = .ok (.string (bs [c])) (w.alloc (.cells #[.int .u8 x] 5)) :=
    run_convert_bytes_back (P := Tryz.prog) (w.alloc (.cells #[.int .u8 x] 5)) 138 9 5 ⟨w.heap.size, 0, none⟩ 1 [c] Tryz.underlying138 Tryz.underlying5 Tryz.underlying9 (fun j hj => by
      have : j = 0 := by simpa using hj
      subst this
      rw [Lib.add_plain, World.cell?_alloc_at _ _ _ _ rfl, hx]
      rfl)
  have hb := (Below.refl w.heap.size w).alloc (Nat.le_refl _) (.cells #[.int .u8 x] 5)
  have hct := c.toNat_lt
  have h1 : 0 ≤ x := by omega
  have h2 : x < 256 := by omega
  clear hx hct
  go_enter Tryz.func187, Tryz.ntmps187
  go_wp2
  go_ret
  exact ⟨rfl, hb⟩
theorem digit_nat (d : Nat) (h : d < 10) : (UInt8.ofNat (48 + d)).toNat = 48 + d := UInt8.toNat_ofNat_of_lt' (show 48 + d < 256 by omega)
theorem dec_small (u : Nat) (h : u < 10) : decDigits u = [UInt8.ofNat (48 + u)] := by rw [decDigits, dif_pos h]
theorem dec_big (u : Nat) (h : ¬ u < 10) : decDigits u = decDigits (u / 10) ++ [UInt8.ofNat (48 + u % 10)] := by rw [decDigits, dif_neg h]
theorem tdiv10 (z : Int) (u : Nat) (h : z = -(u : Int)) : z.tdiv 10 = -((u / 10 : Nat) : Int) := by
  rw [h, Int.neg_tdiv, Int.tdiv_eq_ediv_of_nonneg (by omega)]; omega
theorem tmod10 (z : Int) (u : Nat) (h : z = -(u : Int)) : z.tmod 10 = -((u % 10 : Nat) : Int) := by
  rw [h, Int.neg_tmod, Int.tmod_eq_emod_of_nonneg (by omega)]; omega
theorem decDigits_le21 (u : Nat) (h : u < 18446744073709551616) : (decDigits u).length ≤ 21 := by
  rw [decDigits_length]; exact Nat.le_trans (nDigits_le20 u h) (by decide)
set_option maxHeartbeats 1000000 in
theorem below_any (u : Nat) : ∀ (z : Int) (hz : z = -(u : Int)) (hb : u ≤ 9223372036854775808) (w : World),
    Calls Tryz.prog 141 #[.int .i64 z] w fun e w' => e = .returned (.string (bs (decDigits u))) ∧ Below w.heap.size w w' := by
  induction u using Nat.strongRecOn with
  | _ u ih =>
    intro z hz hb w
    have z0 : z ≤ 0 := by omega
    have z1 : -9223372036854775808 ≤ z := by omega
    have HZ := Lib.hid hz
    have HB := Lib.hid hb
    by_cases hu : u < 10
    · have z2 : (-10 : Int) < z := by omega
      have hd := dec_small u hu
      have hdn := digit_nat u hu
      generalize UInt8.ofNat (48 + u) = c at hd hdn
      have HD := Lib.hid hd
      have HX : Hid (48 - z = (c.toNat : Int)) := Lib.hid (by omega)
      clear hz hb hu ih hd hdn
      go_enter Tryz.func141, Tryz.ntmps141
      go_wp2_with fail
      refine (Byte_any _ c HX.out _).mono ?_
      rintro e w1 ⟨rfl, hb1⟩
      go_wp2
      go_ret
      exact ⟨by rw [HD.out]; rfl, hb1⟩
    · have z2 : z ≤ -10 := by omega
      have hd := dec_big u hu
      have hdn := digit_nat (u % 10) (by omega)
      generalize UInt8.ofNat (48 + u % 10) = c at hd hdn
      have HD := Lib.hid hd
      have HI := Lib.hid (ih (u / 10) (by omega) (z.tdiv 10) (tdiv10 z u hz) (by omega))
      have hm := tmod10 z u hz
      have hm0 : z.tmod 10 ≤ 0 := by omega
      have hm1 : -10 < z.tmod 10 := by omega
      have HX : Hid (48 - z.tmod 10 = (c.toNat : Int)) := Lib.hid (by omega)
      have hl1 : (bs (decDigits (u / 10))).size ≤ 21 := by rw [bs_size]; exact decDigits_le21 _ (by omega)
      clear hz hb hu ih hm hd hdn
      go_enter Tryz.func141, Tryz.ntmps141
      go_wp2_with fail
      refine (HI.out _).mono ?_
      rintro e w1 ⟨rfl, hb1⟩
      generalize decDigits (u / 10) = D at *
      go_wp2_with fail
      refine (Byte_any _ c HX.out _).mono ?_
      rintro e w2 ⟨rfl, hb2⟩
      have hb3 := hb1.trans (hb2.mono hb1.size)
      clear hb1 hb2
      have hl2 : (bs [c]).size ≤ 1 := by rw [bs_size]; exact Nat.le_refl _
      go_wp2
      go_ret
      exact ⟨by rw [HD.out, ← cat_bs]; rfl, hb3⟩
theorem RDecimal_any (n : Int) (h0 : -9223372036854775808 ≤ n) (h1 : n ≤ 9223372036854775807) (w : World) :
    Calls Tryz.prog 87 #[.int .i64 n] w fun e w' => e = .returned (.string (bs (itoa n))) ∧ Below w.heap.size w w' := by
  by_cases hn : n < 0
  · have HQ : Hid (itoa n = 45 :: decDigits n.natAbs) := Lib.hid (by unfold itoa; rw [if_pos hn])
    have HB := Lib.hid (below_any n.natAbs n (by omega) (by omega))
    have hl1 : (bs (decDigits n.natAbs)).size ≤ 21 := by rw [bs_size]; exact decDigits_le21 _ (by omega)
    generalize decDigits n.natAbs = D at *
    go_enter Tryz.func87, Tryz.ntmps87
    go_wp2_with fail
    refine (HB.out _).mono ?_
    rintro e w1 ⟨rfl, hb1⟩
    go_wp2
    go_ret
    exact ⟨by rw [HQ.out, show 45 :: D = [45] ++ D from rfl, ← cat_bs]; rfl, hb1⟩
  · have HQ : Hid (itoa n = decDigits n.toNat) := Lib.hid (by unfold itoa; rw [if_neg hn])
    have HB := Lib.hid (below_any n.toNat (-n) (by omega) (by omega))
    generalize decDigits n.toNat = D at *
    go_enter Tryz.func87, Tryz.ntmps87
    go_wp2_with fail
    refine (HB.out _).mono ?_
    rintro e w1 ⟨rfl, hb1⟩
    go_wp2
    go_ret
    exact ⟨by rw [HQ.out]; rfl, hb1⟩
end Go.Proofs.YtpanoplcamdnkaaGreatDoor

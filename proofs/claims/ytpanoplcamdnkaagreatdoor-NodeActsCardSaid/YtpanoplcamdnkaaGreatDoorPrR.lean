/- Walks of the reference's PrintFrom, PrintOf, IDOf. No conditions but the length's bound. -/
import Derived.Test.YtpanoplcamdnkaaGreatDoorPrt1
namespace Go.Proofs.YtpanoplcamdnkaaGreatDoor
open Go.RowKit Go.Lib

theorem bits_xor_i64_nat (a b : Nat) (ha : a < 4294967296) (hb : b < 4294967296) : bits .xor .i64 (a : Int) (b : Int) = ((a ^^^ b : Nat) : Int) := by
  have hx : a ^^^ b < 2 ^ 32 := Nat.xor_lt_two_pow (by omega) (by omega)
  have h1 : (BitVec.ofInt 64 (a : Int)).toNat = a := by
    rw [BitVec.ofInt_natCast, BitVec.toNat_ofNat]; exact Nat.mod_eq_of_lt (by omega)
  have h2 : (BitVec.ofInt 64 (b : Int)).toNat = b := by
    rw [BitVec.ofInt_natCast, BitVec.toNat_ofNat]; exact Nat.mod_eq_of_lt (by omega)
  show IntKind.i64.wrap ((BitVec.ofInt 64 (a : Int) ^^^ BitVec.ofInt 64 (b : Int)).toNat : Int) = _
  rw [BitVec.toNat_xor, h1, h2]
  simp [IntKind.wrap, IntKind.bits, IntKind.signed]
  omega
theorem prStep_i64 (x : Nat) (c : UInt8) (hx : x < 4294967296) : bits .xor .i64 (x : Int) (c.toNat : Int) = ((x ^^^ c.toNat : Nat) : Int) :=
  bits_xor_i64_nat x c.toNat hx (by have := c.toNat_lt; omega)
theorem prStep_w (x : Nat) (c : UInt8) (hx : x < 4294967296) : (wrap64 (bits .xor .i64 (x : Int) (wrap64 (c.toNat : Int)) * 16777619)).tmod 4294967296 = ((prStep x c : Nat) : Int) := by
  have hc : c.toNat < 256 := c.toNat_lt
  have hy : x ^^^ c.toNat < 4294967296 := Nat.xor_lt_two_pow (n := 32) hx (Nat.lt_of_lt_of_le hc (by decide))
  rw [show wrap64 (c.toNat : Int) = (c.toNat : Int) by unfold wrap64; omega, prStep_i64 x c hx]
  unfold prStep
  generalize x ^^^ c.toNat = y at hy ⊢
  rw [show wrap64 ((y : Int) * 16777619) = ((y * 16777619 : Nat) : Int) by unfold wrap64; omega, Int.tmod_eq_emod_of_nonneg (by omega)]
  omega
set_option maxRecDepth 100000 in
set_option maxHeartbeats 1000000 in
theorem PrintFrom_any (n : Nat) (hn : n < 4294967296) (s : ByteArray) (w : World) (hs : s.size ≤ maxLen) :
    Calls Tryz.prog 234 #[.int .u32 (n : Int), .string s] w fun e w' => e = .returned (.int .u32 (prMore n s.data.toList : Nat)) ∧ w = w' := by
  unfold maxLen at hs
  go_enter Tryz.func234, Tryz.ntmps234
  go_wp2

  go_loop [5, 6] (fun v i => ∃ k : Nat, k ≤ s.size ∧ v = .int .i64 (prMore n (s.data.toList.take k) : Nat) ∧ i = .int .i64 k) (fun _ i => s.size - (RowKit.intOf i).toNat)
  case atStart => exact ⟨0, Nat.zero_le _, rfl, rfl⟩
  case round =>
    obtain ⟨k, hk, rfl, rfl⟩ := hrel
    by_cases hlt : k < s.size
    · have hl := prMore_lt n (s.data.toList.take k) hn
      have HT := Lib.hid (prMore_take_succ n s k hlt)
      generalize prMore n (s.data.toList.take k) = x at *
      have hxor := prStep_i64 x s[k] hl
      have hxl : x ^^^ s[k].toNat < 4294967296 := Nat.xor_lt_two_pow (n := 32) hl (Nat.lt_of_lt_of_le s[k].toNat_lt (by decide))
      go_wp2
      go_round
      case rel => exact ⟨k + 1, hlt, by rw [HT.out, prStep_w x s[k] hl], by go_num⟩
      case measure => simp [RowKit.intOf]; omega
    · obtain rfl : k = s.size := by omega
      have hq : s.data.toList.take s.size = s.data.toList := List.take_of_length_le (by rw [← size_toList]; exact Nat.le_refl _)
      rw [hq]
      clear hq
      have hl := prMore_lt n s.data.toList hn
      go_wp2
      go_ret
      exact ⟨rfl, rfl⟩
theorem PrintOf_any (s : ByteArray) (w : World) (hs : s.size ≤ maxLen) :
    Calls Tryz.prog 188 #[.string s] w fun e w' => e = .returned (.int .u32 (prOf s.data.toList : Nat)) ∧ w = w' := by
  go_enter Tryz.func188, Tryz.ntmps188
  go_wp2_with fail
  refine (PrintFrom_any 2166136261 (by omega) s _ hs).mono ?_
  rintro e w1 ⟨rfl, rfl⟩
  go_wp2
  go_ret
  exact ⟨rfl, rfl⟩
theorem IDOf_any (s : ByteArray) (w : World) (hs : s.size ≤ maxLen) :
    Calls Tryz.prog 143 #[.string s] w fun e w' => e = .returned (.agg #[.int .u32 (prOf s.data.toList : Nat), .int .i64 (s.size : Int)]) ∧ Below w.heap.size w w' := by
  go_enter Tryz.func143, Tryz.ntmps143
  go_wp2_with fail
  refine (PrintOf_any s _ hs).mono ?_
  rintro e w1 ⟨rfl, rfl⟩
  have hb1 := fun x => ((Below.refl w.heap.size w).alloc (Nat.le_refl _) (.cells #[.int .u32 ((prOf s.data.toList : Nat) : Int), x] 47))
  go_wp2
  go_returns
  exact ⟨rfl, hb1 _⟩
end Go.Proofs.YtpanoplcamdnkaaGreatDoor

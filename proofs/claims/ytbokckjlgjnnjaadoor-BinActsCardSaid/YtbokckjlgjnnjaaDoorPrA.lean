/- Plain words of package print, and the walks of More and Of. No conditions. -/
import Derived.Test.YtbokckjlgjnnjaaDoorChecked
import Derived.Test.YtbokckjlgjnnjaaDoorPlainA
import Derived.WalkKit
import Derived.WalkLawsBesides
import Derived.Handy
import Derived.Below
import Derived.Lib.Hide
import Derived.Lib.Strings
import Derived.Laws.Bits64
namespace Go.Proofs.YtbokckjlgjnnjaaDoor
open Go.RowKit Go.Lib

/-- one byte more -/
def prStep (n : Nat) (c : UInt8) : Nat := ((n ^^^ c.toNat) * 16777619) % 4294967296
/-- a print carried on -/
def prMore (n : Nat) (l : Bytes) : Nat := l.foldl prStep n
def prOf (l : Bytes) : Nat := prMore 2166136261 l
theorem prMore_append (n : Nat) (a b : Bytes) : prMore n (a ++ b) = prMore (prMore n a) b := List.foldl_append
theorem prStep_lt (n : Nat) (c : UInt8) : prStep n c < 4294967296 := Nat.mod_lt _ (by decide)
theorem prMore_lt (n : Nat) (l : Bytes) (h : n < 4294967296) : prMore n l < 4294967296 := by
  induction l generalizing n with
  | nil => exact h
  | cons c l ih => exact ih _ (prStep_lt n c)
theorem prOf_lt (l : Bytes) : prOf l < 4294967296 := by
  unfold prOf
  exact prMore_lt _ _ (by omega)
theorem list_ba (s : ByteArray) (k : Nat) (_h : k < s.size) (hl : k < s.data.toList.length) : s.data.toList[k] = s[k] := rfl
theorem prMore_one (n : Nat) (c : UInt8) : prMore n [c] = prStep n c := by
  unfold prMore
  rw [List.foldl_cons, List.foldl_nil]
theorem prMore_take_succ (n : Nat) (s : ByteArray) (k : Nat) (h : k < s.size) : prMore n (s.data.toList.take (k + 1)) = prStep (prMore n (s.data.toList.take k)) s[k] := by
  have hl : k < s.data.toList.length := by rw [← size_toList]; exact h
  rw [← list_ba s k h hl, List.take_succ_eq_append_getElem hl, prMore_append, prMore_one]
theorem bits_xor_u32_nat (a b : Nat) (ha : a < 4294967296) (hb : b < 4294967296) : bits .xor .u32 (a : Int) (b : Int) = ((a ^^^ b : Nat) : Int) := by
  have hx : a ^^^ b < 2 ^ 32 := Nat.xor_lt_two_pow (by omega) (by omega)
  have h1 : (BitVec.ofInt 32 (a : Int)).toNat = a := by
    rw [BitVec.ofInt_natCast, BitVec.toNat_ofNat]; exact Nat.mod_eq_of_lt (by omega)
  have h2 : (BitVec.ofInt 32 (b : Int)).toNat = b := by
    rw [BitVec.ofInt_natCast, BitVec.toNat_ofNat]; exact Nat.mod_eq_of_lt (by omega)
  show IntKind.u32.wrap ((BitVec.ofInt 32 (a : Int) ^^^ BitVec.ofInt 32 (b : Int)).toNat : Int) = _
  rw [BitVec.toNat_xor, h1, h2]
  simp [IntKind.wrap, IntKind.bits, IntKind.signed]
  omega
theorem prStep_val (x : Nat) (c : UInt8) (hx : x < 4294967296) : bits .xor .u32 (x : Int) ((c.toNat : Int) % 4294967296) * 16777619 % 4294967296 = ((prStep x c : Nat) : Int) := by
  have hc : c.toNat < 256 := c.toNat_lt
  rw [show (c.toNat : Int) % 4294967296 = (c.toNat : Int) by omega, bits_xor_u32_nat x c.toNat hx (by omega)]
  unfold prStep
  omega
set_option maxRecDepth 100000 in
set_option maxHeartbeats 1000000 in
theorem PMore_any (n : Nat) (hn : n < 4294967296) (s : ByteArray) (w : World) (hs : s.size ≤ maxLen) :
    Calls Tryd.prog 55 #[.int .u32 (n : Int), .string s] w fun e w' => e = .returned (.int .u32 (prMore n s.data.toList : Nat)) ∧ w = w' := by
  unfold maxLen at hs
  go_enter Tryd.func55, Tryd.ntmps55
  go_wp2
  go_loop [0, 8] (fun v i => ∃ k : Nat, k ≤ s.size ∧ v = .int .u32 (prMore n (s.data.toList.take k) : Nat) ∧ i = .int .i64 k) (fun _ i => s.size - (RowKit.intOf i).toNat)
  case atStart => exact ⟨0, Nat.zero_le _, rfl, rfl⟩
  case round =>
    obtain ⟨k, hk, rfl, rfl⟩ := hrel
    by_cases hlt : k < s.size
    · have hl := prMore_lt n (s.data.toList.take k) hn
      have HT := Lib.hid (prMore_take_succ n s k hlt)
      generalize prMore n (s.data.toList.take k) = x at *
      go_wp2
      go_round
      case rel => exact ⟨k + 1, hlt, by rw [HT.out, prStep_val x s[k] hl], by go_num⟩
      case measure => simp [RowKit.intOf]; omega
    · obtain rfl : k = s.size := by omega
      have hq : s.data.toList.take s.size = s.data.toList := List.take_of_length_le (by rw [← size_toList]; exact Nat.le_refl _)
      rw [hq]
      clear hq
      go_wp2
      go_ret
      exact ⟨rfl, rfl⟩
theorem POf_any (s : ByteArray) (w : World) (hs : s.size ≤ maxLen) :
    Calls Tryd.prog 36 #[.string s] w fun e w' => e = .returned (.int .u32 (prOf s.data.toList : Nat)) ∧ w = w' := by
  go_enter Tryd.func36, Tryd.ntmps36
  go_wp2_with fail
  refine (PMore_any 2166136261 (by omega) s _ hs).mono ?_
  rintro e w1 ⟨rfl, rfl⟩
  go_wp2
  go_ret
  exact ⟨rfl, rfl⟩
end Go.Proofs.YtbokckjlgjnnjaaDoor

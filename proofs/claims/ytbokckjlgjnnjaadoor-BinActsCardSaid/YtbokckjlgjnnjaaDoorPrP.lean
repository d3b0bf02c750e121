/- Plain laws of prints: with one byte another one it is another print; the eight digits tell the number. No program in sight. No conditions. -/
import Derived.Test.YtbokckjlgjnnjaaDoorPrA
namespace Go.Proofs.YtbokckjlgjnnjaaDoor
open Go.RowKit Go.Lib

theorem mul_factor_inj (a b : Nat) (ha : a < 4294967296) (hb : b < 4294967296) (h : a * 16777619 % 4294967296 = b * 16777619 % 4294967296) : a = b := by
  have e : ∀ c : Nat, c < 4294967296 → c * 16777619 % 4294967296 * 899433627 % 4294967296 = c := fun c hc => by
    rw [Nat.mul_mod, Nat.mod_mod, ← Nat.mul_mod, Nat.mul_assoc, show 16777619 * 899433627 = 3513497 * 4294967296 + 1 from by decide, Nat.mul_add, Nat.mul_one, ← Nat.mul_assoc, Nat.mul_add_mod_self_right]
    exact Nat.mod_eq_of_lt hc
  rw [← e a ha, ← e b hb, h]
theorem xor_left_cancel (x a b : Nat) (h : x ^^^ a = x ^^^ b) : a = b := by
  have : x ^^^ (x ^^^ a) = x ^^^ (x ^^^ b) := by rw [h]
  simpa [← Nat.xor_assoc] using this
theorem xor_right_cancel (x y a : Nat) (h : x ^^^ a = y ^^^ a) : x = y := by
  rw [Nat.xor_comm x, Nat.xor_comm y] at h
  exact xor_left_cancel a x y h
theorem xor_byte_lt (x : Nat) (c : UInt8) (hx : x < 4294967296) : x ^^^ c.toNat < 4294967296 :=
  Nat.xor_lt_two_pow (n := 32) hx (Nat.lt_of_lt_of_le c.toNat_lt (by decide))
theorem prStep_inj_n (x y : Nat) (c : UInt8) (hx : x < 4294967296) (hy : y < 4294967296) (h : prStep x c = prStep y c) : x = y :=
  xor_right_cancel x y c.toNat (mul_factor_inj _ _ (xor_byte_lt x c hx) (xor_byte_lt y c hy) h)
theorem prStep_inj_c (x : Nat) (c d : UInt8) (hx : x < 4294967296) (h : prStep x c = prStep x d) : c = d :=
  UInt8.toNat_inj.1 (xor_left_cancel x _ _ (mul_factor_inj _ _ (xor_byte_lt x c hx) (xor_byte_lt x d hx) h))
theorem prMore_inj (l : Bytes) : ∀ (x y : Nat), x < 4294967296 → y < 4294967296 → prMore x l = prMore y l → x = y := by
  induction l with
  | nil => intro x y _ _ h; exact h
  | cons c l ih =>
    intro x y hx hy h
    exact prStep_inj_n x y c hx hy (ih _ _ (prStep_lt x c) (prStep_lt y c) h)
/-- with one byte another one it is another print -/
theorem prOf_other (p q : Bytes) (c d : UInt8) (h : c ≠ d) : prOf (p ++ c :: q) ≠ prOf (p ++ d :: q) := by
  intro e
  unfold prOf at e
  rw [prMore_append, prMore_append] at e
  have hl := prMore_lt 2166136261 p (by omega)
  exact h (prStep_inj_c _ c d hl (prMore_inj q _ _ (prStep_lt _ c) (prStep_lt _ d) e))
/-- the digit of a value -/
def hexc (d : Nat) : UInt8 := if d < 10 then UInt8.ofNat (48 + d) else UInt8.ofNat (87 + d)
/-- the digit of a number at a place (0: the last) -/
def hexAt (n j : Nat) : UInt8 := hexc (n / 16 ^ j % 16)
def hexL (n L : Nat) : Bytes := (List.range L).map fun p => hexAt n (L - 1 - p)
/-- eight digits -/
def hex8 (n : Nat) : Bytes := hexL n 8
theorem hexL_length (n L : Nat) : (hexL n L).length = L := by unfold hexL; simp
theorem hexL_succ (n L : Nat) : hexL n (L + 1) = hexAt n L :: hexL n L := by
  unfold hexL
  rw [List.range_succ_eq_map, List.map_cons, List.map_map]
  congr 1
  refine List.map_congr_left fun p hp => ?_
  have : p < L := List.mem_range.1 hp
  show hexAt n (L + 1 - 1 - (p + 1)) = hexAt n (L - 1 - p)
  rw [show L + 1 - 1 - (p + 1) = L - 1 - p by omega]
theorem hexAt_high (n L j : Nat) (h : n < 16 ^ L) (hj : L ≤ j) : hexAt n j = 48 := by
  have : n < 16 ^ j := Nat.lt_of_lt_of_le h (Nat.pow_le_pow_right (by decide) hj)
  unfold hexAt
  rw [Nat.div_eq_of_lt this]; rfl
theorem hexL_zeros (n L : Nat) (h : n < 16 ^ L) : ∀ k, hexL n (L + k) = List.replicate k 48 ++ hexL n L
  | 0 => rfl
  | k + 1 => by rw [← Nat.add_assoc, hexL_succ, hexAt_high n L _ h (by omega), hexL_zeros n L h k]; rfl
theorem hex8_of (n L : Nat) (h : n < 16 ^ L) (hL : L ≤ 8) : List.replicate (8 - L) 48 ++ hexL n L = hex8 n := by
  unfold hex8
  rw [← hexL_zeros n L h (8 - L), show L + (8 - L) = 8 by omega]
end Go.Proofs.YtbokckjlgjnnjaaDoor

/- Walk of internal/strconv.ParseUint at base 16, 32 bits, at every string. Condition: the length below 2^40. -/
import Derived.Test.YtbokckjlgjnnjaaDoorPrQ
import Derived.Test.YtbokckjlgjnnjaaDoorShelf
import Derived.Lib.ConvBytes
import Derived.Lib.AtoiErrMem
namespace Go.Proofs.YtbokckjlgjnnjaaDoor
open Go.RowKit Go.Lib

theorem or32 (c : UInt8) : bits .or .u8 (c.toNat : Int) 32 = ((c.toNat ||| 32 : Nat) : Int) := by
  have h : ∀ i : Fin 256, bits .or .u8 (i.1 : Int) 32 = ((i.1 ||| 32 : Nat) : Int) := by decide +kernel
  exact h ⟨c.toNat, c.toNat_lt⟩
theorem or32_lt (c : UInt8) : c.toNat ||| 32 < 256 := Nat.or_lt_two_pow (n := 8) c.toNat_lt (by decide)
theorem hexVal_digit (c : UInt8) (h0 : 48 ≤ c.toNat) (h1 : c.toNat ≤ 57) : hexVal c = some (c.toNat - 48) := by unfold hexVal; rw [if_pos ⟨h0, h1⟩]
theorem hexVal_letter (c : UInt8) (h : ¬ (48 ≤ c.toNat ∧ c.toNat ≤ 57)) (h0 : 97 ≤ c.toNat ||| 32) (h1 : c.toNat ||| 32 ≤ 122) : hexVal c = some ((c.toNat ||| 32) - 87) := by unfold hexVal; rw [if_neg h, if_pos ⟨h0, h1⟩]
theorem hexVal_none (c : UInt8) (h : ¬ (48 ≤ c.toNat ∧ c.toNat ≤ 57)) (h0 : ¬ (97 ≤ c.toNat ||| 32 ∧ c.toNat ||| 32 ≤ 122)) : hexVal c = none := by unfold hexVal; rw [if_neg h, if_neg h0]
theorem parse16_some {acc : Nat} {c : UInt8} {r : Bytes} {d : Nat} (h : hexVal c = some d) (hd : d < 16) (ho : acc * 16 + d < 4294967296) : parse16 acc (c :: r) = parse16 (acc * 16 + d) r := by
  simp only [parse16, h]; rw [if_neg (by omega), if_neg (by omega)]
theorem parse16_over {acc : Nat} {c : UInt8} {r : Bytes} {d : Nat} (h : hexVal c = some d) (hd : d < 16) (ho : 4294967296 ≤ acc * 16 + d) : parse16 acc (c :: r) = .error true := by
  simp only [parse16, h]; rw [if_neg (by omega), if_pos ho]
theorem parse16_big {acc : Nat} {c : UInt8} {r : Bytes} {d : Nat} (h : hexVal c = some d) (hd : 16 ≤ d) : parse16 acc (c :: r) = .error false := by
  simp only [parse16, h]; rw [if_pos hd]
theorem parse16_none {acc : Nat} {c : UInt8} {r : Bytes} (h : hexVal c = none) : parse16 acc (c :: r) = .error false := by
  simp only [parse16, h]
end Go.Proofs.YtbokckjlgjnnjaaDoor

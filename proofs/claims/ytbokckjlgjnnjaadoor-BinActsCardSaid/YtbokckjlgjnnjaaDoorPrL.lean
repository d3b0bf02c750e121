/- Walk of printed (a closed fact). Condition: the tables and MaxLen lie as named (PrW). -/
import Derived.Test.YtbokckjlgjnnjaaDoorPrW
namespace Go.Proofs.YtbokckjlgjnnjaaDoor
open Go.RowKit Go.Lib

theorem hexc_no (d : Nat) (h : d < 16) : hexc d ≠ 45 := (show ∀ e : Fin 16, hexc e.1 ≠ 45 by decide) ⟨d, h⟩
theorem hex8_no (p : Nat) : (45 : UInt8) ∉ hex8 p := fun h => by
  unfold hex8 hexL at h
  obtain ⟨j, _, hj⟩ := List.mem_map.1 h
  exact hexc_no _ (Nat.mod_lt _ (by decide)) hj
/-- what is written is read -/
theorem readId_text (p k : Nat) (hp : p < 4294967296) (hk : k < 1000000) : readId (idText p (k : Int)) = some (p, k) := by
  unfold idText
  rw [if_neg (by omega), itoa_nat]
  unfold readId
  rw [byteCut_of 45 (hex8 p) _ (hex8_no p)]
  simp only [unhexOf_hex8 p hp, numOf_dec k 6 (by omega) (by rw [decDigits_length]; exact nDigits_le_of k 5 (by omega))]
theorem decDigits_zero : decDigits 0 = [48] := by rw [decDigits, dif_pos (by decide)]; rfl
theorem prText0 : idText 2166136261 0 = [56, 49, 49, 99, 57, 100, 99, 53, 45, 48] := by
  unfold idText
  rw [if_neg (by decide), show itoa 0 = [48] from by rw [show (0 : Int) = ((0 : Nat) : Int) from rfl, itoa_nat, decDigits_zero]]
  decide +kernel
theorem prRead0 : readId [56, 49, 49, 99, 57, 100, 99, 53, 45, 48] = some (2166136261, 0) := by
  rw [← prText0]
  exact readId_text 2166136261 0 (by decide) (by decide)
end Go.Proofs.YtbokckjlgjnnjaaDoor

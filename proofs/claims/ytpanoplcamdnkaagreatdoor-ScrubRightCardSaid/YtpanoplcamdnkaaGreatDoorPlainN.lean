/- Plain laws of decimal numerals: what is written is read back; what is read is written back if no zero stands ahead. No program in sight. No conditions. -/
import Derived.Lib.ItoaLen
import Derived.Lib.AtoiTie
namespace Go.Proofs.YtpanoplcamdnkaaGreatDoor
open Go.Lib

theorem digitVal_digit (d : Nat) (h : d < 10) : digitVal (UInt8.ofNat (48 + d)) = some d := by
  match d, h with
  | 0, _ | 1, _ | 2, _ | 3, _ | 4, _ | 5, _ | 6, _ | 7, _ | 8, _ | 9, _ => decide
theorem decFrom_append (a b : List UInt8) : ∀ acc n, decFrom acc a = some n → decFrom acc (a ++ b) = decFrom n b := by
  induction a with
  | nil => intro acc n h; simp only [decFrom, Option.some.injEq] at h; rw [List.nil_append, h]
  | cons c a ih =>
    intro acc n h
    simp only [decFrom, List.cons_append] at h ⊢
    cases hc : digitVal c with
    | none => simp [hc] at h
    | some e => simp only [hc] at h ⊢; exact ih _ _ h
theorem decFrom_decDigits (u : Nat) : decFrom 0 (decDigits u) = some u := by
  induction u using Nat.strongRecOn with
  | _ u ih =>
    by_cases h : u < 10
    · rw [decDigits, dif_pos h]; simp only [decFrom, digitVal_digit u h, Nat.zero_mul, Nat.zero_add]
    · rw [decDigits, dif_neg h, decFrom_append _ _ _ _ (ih (u / 10) (by omega))]
      simp only [decFrom, digitVal_digit (u % 10) (by omega)]
      rw [show u / 10 * 10 + u % 10 = u by omega]
theorem decDigits_ne (u : Nat) : decDigits u ≠ [] := fun h => by
  have := decDigits_length u
  have h1 := nDigits_pos u
  rw [h] at this; simp at this; omega
theorem digitVal_lt {b : UInt8} {d : Nat} (h : digitVal b = some d) : d < 10 := by
  obtain ⟨_, _, _⟩ := digitVal_eq h; omega
theorem digit_of_val {b : UInt8} {d : Nat} (h : digitVal b = some d) : b = UInt8.ofNat (48 + d) := by
  obtain ⟨h1, h2, h3⟩ := digitVal_eq h
  apply UInt8.toNat_inj.1
  rw [h3, show 48 + (b.toNat - 48) = b.toNat by omega, UInt8.toNat_ofNat_of_lt' (by have := b.toNat_lt; omega)]
theorem decDigits_step (n d : Nat) (hn : 0 < n) (hd : d < 10) : decDigits (n * 10 + d) = decDigits n ++ [UInt8.ofNat (48 + d)] := by
  conv => lhs; rw [decDigits]
  rw [dif_neg (by omega), show (n * 10 + d) / 10 = n by omega, show (n * 10 + d) % 10 = d by omega]
theorem decDigits_back (l : List UInt8) : ∀ acc n, 0 < acc → decFrom acc l = some n → decDigits n = decDigits acc ++ l := by
  induction l with
  | nil => intro acc n _ h; simp only [decFrom, Option.some.injEq] at h; rw [h, List.append_nil]
  | cons c l ih =>
    intro acc n ha h
    simp only [decFrom] at h
    cases hc : digitVal c with
    | none => simp [hc] at h
    | some e =>
      simp only [hc] at h
      have he := digitVal_lt hc
      rw [ih _ _ (by omega) h, decDigits_step acc e ha he, List.append_assoc, ← digit_of_val hc]; rfl
/-- a numeral with no needless zero ahead is what its number is written as -/
theorem decDigits_of (c : UInt8) (l : List UInt8) (n : Nat) (h : decFrom 0 (c :: l) = some n) (hz : c = 48 → l = []) : decDigits n = c :: l := by
  simp only [decFrom] at h
  cases hc : digitVal c with
  | none => simp [hc] at h
  | some e =>
    simp only [hc, Nat.zero_mul, Nat.zero_add] at h
    have he := digitVal_lt hc
    have hcc := digit_of_val hc
    by_cases h0 : e = 0
    · subst h0
      have hl := hz hcc
      subst hl
      simp only [decFrom, Option.some.injEq] at h
      subst h
      rw [decDigits, dif_pos (by decide), ← hcc]
    · rw [decDigits_back l e n (by omega) h, decDigits, dif_pos he, ← hcc]; rfl
/-- no numeral of a number has a zero ahead, but 0 itself -/
theorem decDigits_head (u : Nat) : ∀ (c : UInt8) (l : List UInt8), decDigits u = c :: l → c = 48 → l = [] := by
  induction u using Nat.strongRecOn with
  | _ u ih =>
    intro c l h hc
    by_cases hu : u < 10
    · rw [decDigits, dif_pos hu] at h
      injection h with h1 h2
      exact h2.symm
    · rw [decDigits, dif_neg hu] at h
      cases hd : decDigits (u / 10) with
      | nil => exact absurd hd (decDigits_ne _)
      | cons b r =>
        rw [hd] at h
        injection h with h1 h2
        have hr := ih (u / 10) (by omega) b r hd (by rw [h1]; exact hc)
        have hv := decFrom_decDigits (u / 10)
        rw [hd, hr, h1, hc] at hv
        simp only [decFrom, show digitVal 48 = some 0 from by decide, Option.some.injEq] at hv
        omega
theorem decDigits_digit (u : Nat) (c : UInt8) (h : c ∈ decDigits u) : 48 ≤ c.toNat ∧ c.toNat ≤ 57 := by
  obtain ⟨k, hk⟩ := List.getElem?_of_mem h
  obtain ⟨d, hd⟩ := digit_of_decFrom _ _ _ (decFrom_decDigits u) k c hk
  have := digitVal_eq hd
  omega
theorem itoa_nat (u : Nat) : itoa (u : Int) = decDigits u := by
  unfold itoa
  rw [if_neg (by omega)]; rfl
theorem nDigits_le_of (u k : Nat) (h : u < 10 ^ (k + 1)) : nDigits u ≤ k + 1 := by
  induction k generalizing u with
  | zero => rw [nDigits_small (by simpa using h)]; exact Nat.le_refl _
  | succ k ih =>
    by_cases hu : u < 10
    · rw [nDigits_small hu]; omega
    · rw [nDigits_big hu]
      have := ih (u / 10) (by rw [Nat.pow_succ] at h; omega)
      omega
theorem decNat_of (l : List UInt8) (n : Nat) (h : decFrom 0 l = some n) (hne : l ≠ []) : decNat l = some n := by
  unfold decNat
  rw [if_neg (by cases l with | nil => exact absurd rfl hne | cons _ _ => simp)]
  exact h
theorem atoiAll_digits (l : List UInt8) (n : Nat) (h : decFrom 0 l = some n) (hne : l ≠ []) (hl : l.length ≤ 18) : atoiAll l = .ok (n : Int) := by
  rw [atoiAll_short l hl]
  cases l with
  | nil => exact absurd rfl hne
  | cons c r =>
    have hd : ∃ d, digitVal c = some d := digit_of_decFrom _ _ _ h 0 c rfl
    obtain ⟨d, hd⟩ := hd
    obtain ⟨h1, h2, _⟩ := digitVal_eq hd
    have e1 : (c == 45) = false := by
      rw [beq_eq_false_iff_ne]; intro e; rw [e] at h1; simp at h1
    have e2 : (c == 43) = false := by
      rw [beq_eq_false_iff_ne]; intro e; rw [e] at h1; simp at h1
    show NumEnd.ofOption (if (c == 45) = true then (decNat r).map (fun (m : Nat) => -(m : Int)) else if (c == 43) = true then (decNat r).map (fun (m : Nat) => (m : Int)) else (decNat (c :: r)).map (fun (m : Nat) => (m : Int))) = _
    rw [e1, e2, decNat_of _ _ h hne]
    rfl
theorem atoiAll_decDigits (u : Nat) (h : u < 10 ^ 18) : atoiAll (decDigits u) = .ok (u : Int) :=
  atoiAll_digits _ _ (decFrom_decDigits u) (decDigits_ne u) (by rw [decDigits_length]; exact nDigits_le_of u 17 h)
end Go.Proofs.YtpanoplcamdnkaaGreatDoor

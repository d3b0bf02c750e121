/- Plain words: the document's cutting, reading of digits and of hexadecimal digits, and that they read an ID as the package does. No program in sight. No conditions. -/
import Derived.Test.YtpanoplcamdnkaaGreatDoorPrt2
namespace Go.Proofs.YtpanoplcamdnkaaGreatDoor
open Go.RowKit Go.Lib

/-! ### cutting at a byte -/
def cutAux (b : UInt8) : Bytes → Bytes → List Bytes
  | cur, [] => [cur]
  | cur, c :: l => if c = b then cur :: cutAux b [] l else cutAux b (cur ++ [c]) l
def cutAll (b : UInt8) (l : Bytes) : List Bytes := cutAux b [] l
theorem cutAux_none (b : UInt8) (l : Bytes) : ∀ cur, b ∉ l → cutAux b cur l = [cur ++ l] := by
  induction l with
  | nil => intro cur _; simp [cutAux]
  | cons c l ih =>
    intro cur h
    have hc : c ≠ b := fun e => h (by simp [e])
    rw [cutAux, if_neg hc, ih _ (fun e => h (List.mem_cons_of_mem _ e)), List.append_assoc]; rfl
theorem cutAux_some (b : UInt8) (d r : Bytes) : ∀ cur, b ∉ d → cutAux b cur (d ++ b :: r) = (cur ++ d) :: cutAux b [] r := by
  induction d with
  | nil => intro cur _; simp [cutAux]
  | cons c d ih =>
    intro cur h
    have hc : c ≠ b := fun e => h (by simp [e])
    rw [List.cons_append, cutAux, if_neg hc, ih _ (fun e => h (List.mem_cons_of_mem _ e)), List.append_assoc]; rfl
theorem cutAux_ne (b : UInt8) (l : Bytes) : ∀ cur, cutAux b cur l ≠ [] := by
  induction l with
  | nil => intro cur; simp [cutAux]
  | cons c l ih => intro cur; rw [cutAux]; split <;> simp [ih]
theorem cutAux_length (b : UInt8) (l : Bytes) : ∀ cur, (cutAux b cur l).length ≤ l.length + 1 := by
  induction l with
  | nil => intro cur; simp [cutAux]
  | cons c l ih =>
    intro cur
    rw [cutAux]
    split
    · have := ih []; simp; omega
    · have := ih (cur ++ [c]); simp; omega
/-! ### hexadecimal digits -/
def lowHex (c : UInt8) : Option Nat := if 48 ≤ c.toNat ∧ c.toNat ≤ 57 then some (c.toNat - 48) else if 97 ≤ c.toNat ∧ c.toNat ≤ 102 then some (c.toNat - 87) else none
def unhexAux (acc : Nat) : Bytes → Option Nat
  | [] => some acc
  | c :: r => match lowHex c with
    | some d => unhexAux (16 * acc + d) r
    | none => none
theorem lowHex_hexc (d : Nat) (h : d < 16) : lowHex (hexc d) = some d := (show ∀ e : Fin 16, lowHex (hexc e.1) = some e.1 by decide +kernel) ⟨d, h⟩
theorem lowHex_back (c : UInt8) (d : Nat) (h : lowHex c = some d) : d < 16 ∧ hexc d = c := by
  have key : ∀ e : Fin 256, ∀ d, lowHex (UInt8.ofNat e.1) = some d → d < 16 ∧ hexc d = UInt8.ofNat e.1 := by
    intro e d h
    have hd : d < 16 := by
      unfold lowHex at h
      split at h
      · injection h with h; omega
      · split at h
        · injection h with h; omega
        · cases h
    refine ⟨hd, ?_⟩
    have key2 : ∀ e : Fin 256, ∀ d : Fin 16, lowHex (UInt8.ofNat e.1) = some d.1 → hexc d.1 = UInt8.ofNat e.1 := by decide +kernel
    exact key2 e ⟨d, hd⟩ h
  have := key ⟨c.toNat, c.toNat_lt⟩ d (by simpa using h)
  simpa using this
theorem unhexAux_hexL (n : Nat) : ∀ L, unhexAux (n / 16 ^ L) (hexL n L) = some n
  | 0 => by simp [hexL, unhexAux]
  | L + 1 => by
    rw [hexL_succ]
    unfold unhexAux hexAt
    rw [lowHex_hexc _ (Nat.mod_lt _ (by decide))]
    simp only
    have e : 16 * (n / 16 ^ (L + 1)) + n / 16 ^ L % 16 = n / 16 ^ L := by
      rw [Nat.pow_succ, ← Nat.div_div_eq_div_mul]; omega
    rw [e]
    exact unhexAux_hexL n L
theorem unhexAux_back (l : Bytes) : ∀ acc n, unhexAux acc l = some n → n / 16 ^ l.length = acc ∧ l = hexL n l.length := by
  induction l with
  | nil => intro acc n h; simp only [unhexAux, Option.some.injEq] at h; subst h; simp [hexL]
  | cons c r ih =>
    intro acc n h
    unfold unhexAux at h
    cases hc : lowHex c with
    | none => rw [hc] at h; cases h
    | some d =>
      rw [hc] at h
      simp only at h
      obtain ⟨h1, h2⟩ := ih _ _ h
      obtain ⟨hd, hx⟩ := lowHex_back c d hc
      rw [List.length_cons]
      refine ⟨?_, ?_⟩
      · rw [Nat.pow_succ, ← Nat.div_div_eq_div_mul, h1]; omega
      · rw [hexL_succ, ← h2]
        congr 1
        unfold hexAt
        rw [h1, show (16 * acc + d) % 16 = d by omega, hx]
theorem unhexAux_lt (l : Bytes) : ∀ acc n, unhexAux acc l = some n → n < (acc + 1) * 16 ^ l.length := by
  intro acc n h
  have := (unhexAux_back l acc n h).1
  have h2 : n / 16 ^ l.length < acc + 1 := by omega
  exact (Nat.div_lt_iff_lt_mul (Nat.pow_pos (by decide))).1 h2
/-- what the document reads out of eight digits -/
def unhexR (l : Bytes) : Option Nat := if l.length = 8 then unhexAux 0 l else none
theorem unhexR_eq (l : Bytes) : unhexR l = unhexOf l := by
  unfold unhexR
  by_cases h8 : l.length = 8
  · rw [if_pos h8]
    cases h : unhexAux 0 l with
    | some n =>
      have hb := (unhexAux_back l 0 n h).2
      have hl := unhexAux_lt l 0 n h
      rw [h8] at hb hl
      rw [hb]
      exact (unhexOf_hex8 n (by omega)).symm
    | none =>
      cases h2 : unhexOf l with
      | none => rfl
      | some n =>
        obtain ⟨hn, hl⟩ := unhexOf_some h2
        have := unhexAux_hexL n 8
        rw [Nat.div_eq_of_lt (by omega)] at this
        rw [hl] at h
        unfold hex8 at h
        rw [this] at h; cases h
  · rw [if_neg h8]
    cases h2 : unhexOf l with
    | none => rfl
    | some n =>
      obtain ⟨_, hl⟩ := unhexOf_some h2
      rw [hl] at h8
      exact absurd (hexL_length n 8) h8
/-! ### digits -/
def numR (l : Bytes) (m : Nat) : Option Nat := if l.length < 1 ∨ m < l.length ∨ (1 < l.length ∧ l.headD 0 = 48) then none else decFrom 0 l
theorem numR_eq (l : Bytes) (m : Nat) (hm : m ≤ 18) : numR l m = numOf l m := by
  have back : ∀ k, numOf l m = some k → numR l m = some k := fun k h => by
    obtain ⟨_, h2, h3⟩ := numOf_some h
    subst h3
    unfold numR
    rw [if_neg, decFrom_decDigits]
    rintro (h | h | ⟨h, h'⟩)
    · have := decDigits_ne k
      exact this (List.length_eq_zero_iff.1 (by omega))
    · omega
    · cases hd : decDigits k with
      | nil => rw [hd] at h; simp at h
      | cons c r =>
        rw [hd] at h h'
        have := decDigits_head k c r hd h'
        subst this
        simp at h
  cases h : numOf l m with
  | some k => exact back k h
  | none =>
    cases h2 : numR l m with
    | none => rfl
    | some n =>
      exfalso
      unfold numR at h2
      split at h2
      · cases h2
      · next hc =>
        have h1 : ¬ l.length < 1 := fun e => hc (.inl e)
        have h3 : ¬ m < l.length := fun e => hc (.inr (.inl e))
        have h4 : ¬ (1 < l.length ∧ l.headD 0 = 48) := fun e => hc (.inr (.inr e))
        have hne : l ≠ [] := fun e => h1 (by rw [e]; decide)
        have hd : decDigits n = l := by
          cases l with
          | nil => exact absurd rfl hne
          | cons c r =>
            refine decDigits_of c r n h2 (fun e => ?_)
            cases r with
            | nil => rfl
            | cons c' r' => exact absurd ⟨by simp, e⟩ h4
        have := numOf_dec n m (by
          have hlen := decDigits_length n
          rw [hd] at hlen
          have hp : n < 10 ^ nDigits n := lt_pow_nDigits n
          exact Nat.lt_of_lt_of_le hp (Nat.pow_le_pow_right (by decide) (by omega))) (by rw [hd]; omega)
        rw [hd] at this
        rw [this] at h; cases h
/-! ### reading an ID -/
def readR (l : Bytes) : Option (Nat × Nat) := match cutAll 45 l with
  | [h, d] => match unhexR h, numR d 6 with
    | some n, some k => some (n, k)
    | _, _ => none
  | _ => none
theorem numOf_no45 {l : Bytes} {m k : Nat} (h : numOf l m = some k) : (45 : UInt8) ∉ l := fun hm => by
  rw [(numOf_some h).2.2] at hm
  have := decDigits_digit k 45 hm
  exact absurd this.1 (by decide)
theorem readR_eq (l : Bytes) : readR l = readId l := by
  unfold readR readId cutAll
  cases h : byteCut 45 l with
  | none => rw [cutAux_none 45 l [] ((byteCut_none 45 l).1 h)]
  | some p =>
    obtain ⟨d, r⟩ := p
    obtain ⟨h1, h2⟩ := byteCut_some 45 l d r h
    rw [h1, cutAux_some 45 d r [] h2, List.nil_append]
    by_cases hr : (45 : UInt8) ∈ r
    · have hn : numOf r 6 = none := by
        cases hk : numOf r 6 with
        | none => rfl
        | some k => exact absurd hr (numOf_no45 hk)
      obtain ⟨a, b, e⟩ : ∃ a b, r = a ++ 45 :: b ∧ (45 : UInt8) ∉ a := by
        cases hb : byteCut 45 r with
        | none => exact absurd hr ((byteCut_none 45 r).1 hb)
        | some q => exact ⟨q.1, q.2, byteCut_some 45 r q.1 q.2 hb⟩
      obtain ⟨e, ha⟩ := e
      rw [e, cutAux_some 45 a b [] ha]
      have hne := cutAux_ne 45 b []
      rw [← e]
      cases hc : cutAux 45 [] b with
      | nil => exact absurd hc hne
      | cons x y => simp only [hn]; cases unhexOf d <;> rfl
    · rw [cutAux_none 45 r [] hr, List.nil_append]
      simp only [unhexR_eq, numR_eq r 6 (by decide)]
      cases unhexOf d <;> cases numOf r 6 <;> rfl
end Go.Proofs.YtpanoplcamdnkaaGreatDoor

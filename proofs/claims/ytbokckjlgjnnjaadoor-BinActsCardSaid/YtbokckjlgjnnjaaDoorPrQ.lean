/- Plain laws of eight digits read back. No program in sight. No conditions. -/
import Derived.Test.YtbokckjlgjnnjaaDoorPrP
namespace Go.Proofs.YtbokckjlgjnnjaaDoor
open Go.RowKit Go.Lib

/-- a byte's value as a digit, by the library: letters of either case -/
def hexVal (c : UInt8) : Option Nat :=
  if 48 ≤ c.toNat ∧ c.toNat ≤ 57 then some (c.toNat - 48)
  else if 97 ≤ c.toNat ||| 32 ∧ c.toNat ||| 32 ≤ 122 then some ((c.toNat ||| 32) - 87) else none
/-- the library's reading at base 16, of 32 bits -/
def parse16 (acc : Nat) : Bytes → Except Bool Nat
  | [] => .ok acc
  | c :: r => match hexVal c with
    | none => .error false
    | some d => if 16 ≤ d then .error false else if 4294967296 ≤ acc * 16 + d then .error true else parse16 (acc * 16 + d) r
def parseHex (l : Bytes) : Except Bool Nat := if l = [] then .error false else parse16 0 l
theorem hexVal_hexc (d : Nat) (h : d < 16) : hexVal (hexc d) = some d :=
  (show ∀ e : Fin 16, hexVal (hexc e.1) = some e.1 by decide +kernel) ⟨d, h⟩
theorem parse16_hexL (n : Nat) (hn : n < 4294967296) : ∀ L, L ≤ 8 → parse16 (n / 16 ^ L) (hexL n L) = .ok n
  | 0, _ => by simp [hexL, parse16]
  | L + 1, h => by
    rw [hexL_succ]
    simp only [parse16, hexAt, hexVal_hexc (n / 16 ^ L % 16) (Nat.mod_lt _ (by decide))]
    have e : n / 16 ^ (L + 1) * 16 + n / 16 ^ L % 16 = n / 16 ^ L := by
      rw [Nat.pow_succ, ← Nat.div_div_eq_div_mul]; omega
    have hle : n / 16 ^ L ≤ n := Nat.div_le_self _ _
    rw [if_neg (by omega), e, if_neg (by omega)]
    exact parse16_hexL n hn L (by omega)
theorem parseHex_hex8 (n : Nat) (hn : n < 4294967296) : parseHex (hex8 n) = .ok n := by
  unfold parseHex
  rw [if_neg (fun e => by have := hexL_length n 8; unfold hex8 at e; rw [e] at this; simp at this)]
  have := parse16_hexL n hn 8 (Nat.le_refl _)
  rw [Nat.div_eq_of_lt (by omega)] at this
  exact this
theorem parse16_lt (l : Bytes) : ∀ acc n, acc < 4294967296 → parse16 acc l = .ok n → n < 4294967296 := by
  induction l with
  | nil => intro acc n h e; simp only [parse16, Except.ok.injEq] at e; omega
  | cons c l ih =>
    intro acc n h e
    simp only [parse16] at e
    split at e
    · cases e
    · split at e
      · cases e
      · split at e
        · cases e
        · exact ih _ _ (by omega) e
theorem parseHex_lt {l : Bytes} {n : Nat} (h : parseHex l = .ok n) : n < 4294967296 := by
  unfold parseHex at h
  split at h
  · cases h
  · exact parse16_lt l 0 n (by decide) h
/-- the package's reading of eight digits -/
def unhexOf (l : Bytes) : Option Nat := match parseHex l with
  | .ok n => if hex8 n = l then some n else none
  | _ => none
theorem unhexOf_hex8 (n : Nat) (hn : n < 4294967296) : unhexOf (hex8 n) = some n := by
  unfold unhexOf
  rw [parseHex_hex8 n hn]; simp
theorem unhexOf_some {l : Bytes} {n : Nat} (h : unhexOf l = some n) : n < 4294967296 ∧ l = hex8 n := by
  unfold unhexOf at h
  split at h
  · next m hm =>
    split at h
    · next he =>
      injection h with h
      subst h
      exact ⟨parseHex_lt hm, he.symm⟩
    · cases h
  · cases h
end Go.Proofs.YtbokckjlgjnnjaaDoor

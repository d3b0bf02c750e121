/- Plain words: the document's cutting, reading of digits and of hexadecimal digits, and that they read an ID as the package does. No program in sight. No conditions. -/
import Derived.Test.YtpanoplcamdnkaaGreatDoorPrt2
namespace Go.Proofs.YtpanoplcamdnkaaGreatDoor
open Go.RowKit Go.Lib

/-! ### cutting at a byte -/
def cutAux (b : UInt8) : Bytes → Bytes → List Bytes
  | cur, [] => [cur]
  | cur, c :: l => if c = b then cur :: cutAux b [] l else cutAux b (cur ++ [c]) l
def cutAll (b : UInt8) (l : Bytes) : List Bytes := cutAux b [] l
/-! ### hexadecimal digits -/
def lowHex (c : UInt8) : Option Nat := if 48 ≤ c.toNat ∧ c.toNat ≤ 57 then some (c.toNat - 48) else if 97 ≤ c.toNat ∧ c.toNat ≤ 102 then some (c.toNat - 87) else none
def unhexAux (acc : Nat) : Bytes → Option Nat
  | [] => some acc
  | c :: r => match lowHex c with
    | some d => unhexAux (16 * acc + d) r
    | none => none
/-- what the document reads out of eight digits -/
def unhexR (l : Bytes) : Option Nat := if l.length = 8 then unhexAux 0 l else none
/-! ### digits -/
def numR (l : Bytes) (m : Nat) : Option Nat := if l.length < 1 ∨ m < l.length ∨ (1 < l.length ∧ l.headD 0 = 48) then none else decFrom 0 l
/-! ### reading an ID -/
def readR (l : Bytes) : Option (Nat × Nat) := match cutAll 45 l with
  | [h, d] => match unhexR h, numR d 6 with
    | some n, some k => some (n, k)
    | _, _ => none
  | _ => none
end Go.Proofs.YtpanoplcamdnkaaGreatDoor

/- PrA, PrP, PrQ, PrU, PrF, Tabs in one text. Conditions: as each part says. -/
import Derived.Test.YtpanoplcamdnkaaGreatDoorChecked
import Derived.Test.YtpanoplcamdnkaaGreatDoorPlainA
import Derived.WalkKit
import Derived.WalkLawsBesides
import Derived.Handy
import Derived.Below
import Derived.Lib.Hide
import Derived.Lib.Strings
import Derived.Laws.Bits64
import Derived.Test.YtpanoplcamdnkaaGreatDoorShelf
import Derived.Lib.ConvBytes
import Derived.Lib.AtoiErrMem
import Derived.Laws.IdiomStrings
import Derived.Deep.RegionHeld
import Derived.Lib.ItoaMem
import Derived.Lib.SmallJoins
import Derived.Lib.AppendIntMem
/- Plain words of package print, and the walks of More and Of. No conditions. -/
namespace Go.Proofs.YtpanoplcamdnkaaGreatDoor
open Go.RowKit Go.Lib

/-- one byte more -/
def prStep (n : Nat) (c : UInt8) : Nat := ((n ^^^ c.toNat) * 16777619) % 4294967296
/-- a print carried on -/
def prMore (n : Nat) (l : Bytes) : Nat := l.foldl prStep n
def prOf (l : Bytes) : Nat := prMore 2166136261 l
theorem prMore_append (n : Nat) (a b : Bytes) : prMore n (a ++ b) = prMore (prMore n a) b := List.foldl_append
theorem prStep_lt (n : Nat) (c : UInt8) : prStep n c < 4294967296 := Nat.mod_lt _ (by decide)
theorem prMore_lt (n : Nat) (l : Bytes) (h : n < 4294967296) : prMore n l < 4294967296 := by
  induction l generalizing n with
  | nil => exact h
  | cons c l ih => exact ih _ (prStep_lt n c)
theorem prOf_lt (l : Bytes) : prOf l < 4294967296 := by
  unfold prOf
  exact prMore_lt _ _ (by omega)
theorem list_ba (s : ByteArray) (k : Nat) (_h : k < s.size) (hl : k < s.data.toList.length) : s.data.toList[k] = s[k] := rfl
theorem prMore_one (n : Nat) (c : UInt8) : prMore n [c] = prStep n c := by
  unfold prMore
  rw [List.foldl_cons, List.foldl_nil]
theorem prMore_take_succ (n : Nat) (s : ByteArray) (k : Nat) (h : k < s.size) : prMore n (s.data.toList.take (k + 1)) = prStep (prMore n (s.data.toList.take k)) s[k] := by
  have hl : k < s.data.toList.length := by rw [← size_toList]; exact h
  rw [← list_ba s k h hl, List.take_succ_eq_append_getElem hl, prMore_append, prMore_one]
theorem bits_xor_u32_nat (a b : Nat) (ha : a < 4294967296) (hb : b < 4294967296) : bits .xor .u32 (a : Int) (b : Int) = ((a ^^^ b : Nat) : Int) := by
  have hx : a ^^^ b < 2 ^ 32 := Nat.xor_lt_two_pow (by omega) (by omega)
  have h1 : (BitVec.ofInt 32 (a : Int)).toNat = a := by
    rw [BitVec.ofInt_natCast, BitVec.toNat_ofNat]; exact Nat.mod_eq_of_lt (by omega)
  have h2 : (BitVec.ofInt 32 (b : Int)).toNat = b := by
    rw [BitVec.ofInt_natCast, BitVec.toNat_ofNat]; exact Nat.mod_eq_of_lt (by omega)
  show IntKind.u32.wrap ((BitVec.ofInt 32 (a : Int) ^^^ BitVec.ofInt 32 (b : Int)).toNat : Int) = _
  rw [BitVec.toNat_xor, h1, h2]
  simp [IntKind.wrap, IntKind.bits, IntKind.signed]
  omega
theorem prStep_val (x : Nat) (c : UInt8) (hx : x < 4294967296) : bits .xor .u32 (x : Int) ((c.toNat : Int) % 4294967296) * 16777619 % 4294967296 = ((prStep x c : Nat) : Int) := by
  have hc : c.toNat < 256 := c.toNat_lt
  rw [show (c.toNat : Int) % 4294967296 = (c.toNat : Int) by omega, bits_xor_u32_nat x c.toNat hx (by omega)]
  unfold prStep
  omega
set_option maxRecDepth 100000 in
set_option maxHeartbeats 1000000 in
theorem PMore_any (n : Nat) (hn : n < 4294967296) (s : ByteArray) (w : World) (hs : s.size ≤ maxLen) :
    Calls Tryz.prog 115 #[.int .u32 (n : Int), .string s] w fun e w' => e = .returned (.int .u32 (prMore n s.data.toList : Nat)) ∧ w = w' := by
  unfold maxLen at hs
  go_enter Tryz.func115, Tryz.ntmps115
  go_wp2
  go_loop [0, 8] (fun v i => ∃ k : Nat, k ≤ s.size ∧ v = .int .u32 (prMore n (s.data.toList.take k) : Nat) ∧ i = .int .i64 k) (fun _ i => s.size - (RowKit.intOf i).toNat)
  case atStart => exact ⟨0, Nat.zero_le _, rfl, rfl⟩
  case round =>
    obtain ⟨k, hk, rfl, rfl⟩ := hrel
    by_cases hlt : k < s.size
    · have hl := prMore_lt n (s.data.toList.take k) hn
      have HT := Lib.hid (prMore_take_succ n s k hlt)
      generalize prMore n (s.data.toList.take k) = x at *
      go_wp2
      go_round
      case rel => exact ⟨k + 1, hlt, by rw [HT.out, prStep_val x s[k] hl], by go_num⟩
      case measure => simp [RowKit.intOf]; omega
    · obtain rfl : k = s.size := by omega
      have hq : s.data.toList.take s.size = s.data.toList := List.take_of_length_le (by rw [← size_toList]; exact Nat.le_refl _)
      rw [hq]
      clear hq
      go_wp2
      go_ret
      exact ⟨rfl, rfl⟩
theorem POf_any (s : ByteArray) (w : World) (hs : s.size ≤ maxLen) :
    Calls Tryz.prog 66 #[.string s] w fun e w' => e = .returned (.int .u32 (prOf s.data.toList : Nat)) ∧ w = w' := by
  go_enter Tryz.func66, Tryz.ntmps66
  go_wp2_with fail
  refine (PMore_any 2166136261 (by omega) s _ hs).mono ?_
  rintro e w1 ⟨rfl, rfl⟩
  go_wp2
  go_ret
  exact ⟨rfl, rfl⟩
end Go.Proofs.YtpanoplcamdnkaaGreatDoor
/- Plain laws of prints: with one byte another one it is another print; the eight digits tell the number. No program in sight. No conditions. -/
namespace Go.Proofs.YtpanoplcamdnkaaGreatDoor
open Go.RowKit Go.Lib

/-- the digit of a value -/
def hexc (d : Nat) : UInt8 := if d < 10 then UInt8.ofNat (48 + d) else UInt8.ofNat (87 + d)
/-- the digit of a number at a place (0: the last) -/
def hexAt (n j : Nat) : UInt8 := hexc (n / 16 ^ j % 16)
def hexL (n L : Nat) : Bytes := (List.range L).map fun p => hexAt n (L - 1 - p)
/-- eight digits -/
def hex8 (n : Nat) : Bytes := hexL n 8
end Go.Proofs.YtpanoplcamdnkaaGreatDoor
/- Plain laws of eight digits read back. No program in sight. No conditions. -/
namespace Go.Proofs.YtpanoplcamdnkaaGreatDoor
open Go.RowKit Go.Lib

/-- a byte's value as a digit, by the library: letters of either case -/
def hexVal (c : UInt8) : Option Nat :=
  if 48 ≤ c.toNat ∧ c.toNat ≤ 57 then some (c.toNat - 48)
  else if 97 ≤ c.toNat ||| 32 ∧ c.toNat ||| 32 ≤ 122 then some ((c.toNat ||| 32) - 87) else none
/-- the library's reading at base 16, of 32 bits -/
def parse16 (acc : Nat) : Bytes → Except Bool Nat
  | [] => .ok acc
  | c :: r => match hexVal c with
    | none => .error false
    | some d => if 16 ≤ d then .error false else if 4294967296 ≤ acc * 16 + d then .error true else parse16 (acc * 16 + d) r
def parseHex (l : Bytes) : Except Bool Nat := if l = [] then .error false else parse16 0 l
/-- the package's reading of eight digits -/
def unhexOf (l : Bytes) : Option Nat := match parseHex l with
  | .ok n => if hex8 n = l then some n else none
  | _ => none
end Go.Proofs.YtpanoplcamdnkaaGreatDoor
/- Walk of internal/strconv.ParseUint at base 16, 32 bits, at every string. Condition: the length below 2^40. -/
namespace Go.Proofs.YtpanoplcamdnkaaGreatDoor
open Go.RowKit Go.Lib

/-- the number and the error that come back -/
def ParseRes (e : Except Bool Nat) (x : Int) (r : Value) : Prop :=
  (∃ n, e = .ok n ∧ x = (n : Int) ∧ r = .nilIface) ∨ (e = .error false ∧ x = 0 ∧ r = .iface 331 (.int .i64 2)) ∨ (e = .error true ∧ x = 4294967295 ∧ r = .iface 331 (.int .i64 1))
end Go.Proofs.YtpanoplcamdnkaaGreatDoor
/- Walk of strconv.FormatUint at base 16. Condition: the one cell of math/bits.deBruijn64tab that is read holds what its initialiser lays. -/
namespace Go.Proofs.YtpanoplcamdnkaaGreatDoor
open Go.RowKit Go.Lib

def digs : ByteArray := ⟨#[48, 49, 50, 51, 52, 53, 54, 55, 56, 57, 97, 98, 99, 100, 101, 102, 103, 104, 105, 106, 107, 108, 109, 110, 111, 112, 113, 114, 115, 116, 117, 118, 119, 120, 121, 122]⟩
/-- the row of 65 bytes: k digits stand at its end -/
structure Hx (b n k : Nat) (w : World) : Prop where
  isb : ∀ j, j < 65 → ∃ c, w.cell? ⟨b, j, none⟩ = some (.int .u8 c)
  nof : ∀ j, j < 65 → w.frozen? ⟨b, j, none⟩ = false
  dig : ∀ j, j < k → w.cell? ⟨b, 64 - j, none⟩ = some (.int .u8 ((hexAt n j).toNat : Int))
theorem Hx.start (n : Nat) (w : World) (b : Nat) (hb : b = w.heap.size) : Hx b n 0 (w.alloc (.cells (Array.replicate 65 (.int .u8 0)) 343)) where
  isb j hj := ⟨0, by rw [World.cell?_alloc_at _ _ _ _ hb, Array.getElem?_replicate, if_pos hj]⟩
  nof j hj := by subst hb; exact World.frozen?_alloc_new _ _ _ _
  dig j hj := absurd hj (Nat.not_lt_zero _)
theorem Hx.step {b n k : Nat} {w : World} (h : Hx b n k w) (hk : k < 65) : Hx b n (k + 1) (w.setCell ⟨b, 64 - k, none⟩ (.int .u8 ((hexAt n k).toNat : Int))) where
  isb j hj := by
    by_cases he : j = 64 - k
    · subst he
      obtain ⟨c, hc⟩ := h.isb (64 - k) (by omega)
      exact ⟨_, World.cell?_setCell_same _ _ _ hc⟩
    · obtain ⟨c, hc⟩ := h.isb j hj
      exact ⟨c, by rw [World.cell?_setCell_other _ _ _ _ (by intro e; injection e; omega)]; exact hc⟩
  nof j hj := by rw [World.frozen?_setCell]; exact h.nof j hj
  dig j hj := by
    by_cases he : j = k
    · subst he
      obtain ⟨c, hc⟩ := h.isb (64 - j) (by omega)
      exact World.cell?_setCell_same _ _ _ hc
    · rw [World.cell?_setCell_other _ _ _ _ (by intro e; injection e; omega)]; exact h.dig j (by omega)

end Go.Proofs.YtpanoplcamdnkaaGreatDoor
/- The library's tables that the walks read, kept under whatever leaves old memory alone. No conditions. -/
namespace Go.Proofs.YtpanoplcamdnkaaGreatDoor
open Go.RowKit Go.Lib Go.Sort

structure Tabs (w : World) : Prop where
  tab : TabIs Tryz.prog w "internal/strconv.uint64pow10" .u64 pow10Tab
  db : w.cell? ⟨20, 15, none⟩ = some (.int .u8 4)
theorem Tabs.below {w w' : World} (h : Tabs w) (hb : Below w.heap.size w w') : Tabs w' where
  tab := Go.Joins.tab_stays (g := 14) (by kernel_rfl) h.tab hb (Nat.le_refl _)
  db := (hb.cell (p := ⟨20, 15, none⟩) (World.block_lt_of_cell? w _ h.db)).trans h.db
/-- the search's variable holds some number -/
def MaxL (w : World) : Prop := ∃ m, w.cell? ⟨13, 0, none⟩ = some (.int .i64 m)
theorem MaxL.below {w w' : World} (h : MaxL w) (hb : Below w.heap.size w w') : MaxL w' := by
  obtain ⟨m, hm⟩ := h
  exact ⟨m, (hb.cell (p := ⟨13, 0, none⟩) (World.block_lt_of_cell? w _ hm)).trans hm⟩
end Go.Proofs.YtpanoplcamdnkaaGreatDoor

/- PrA, PrP, PrQ, PrU, PrF, Tabs in one text. Conditions: as each part says. -/
import Derived.Test.YthddgclmnbaloaaDoorChecked
import Derived.Test.YthddgclmnbaloaaDoorPlainA
import Derived.WalkKit
import Derived.WalkLawsBesides
import Derived.Handy
import Derived.Below
import Derived.Lib.Hide
import Derived.Lib.Strings
import Derived.Laws.Bits64
import Derived.Test.YthddgclmnbaloaaDoorShelf
import Derived.Lib.ConvBytes
import Derived.Lib.AtoiErrMem
import Derived.Laws.IdiomStrings
import Derived.Deep.RegionHeld
import Derived.Lib.ItoaMem
import Derived.Lib.SmallJoins
import Derived.Lib.AppendIntMem
/- Plain words of package print, and the walks of More and Of. No conditions. -/
namespace Go.Proofs.YthddgclmnbaloaaDoor
open Go.RowKit Go.Lib

/-- one byte more -/
def prStep (n : Nat) (c : UInt8) : Nat := ((n ^^^ c.toNat) * 16777619) % 4294967296
/-- a print carried on -/
def prMore (n : Nat) (l : Bytes) : Nat := l.foldl prStep n
def prOf (l : Bytes) : Nat := prMore 2166136261 l
theorem prMore_append (n : Nat) (a b : Bytes) : prMore n (a ++ b) = prMore (prMore n a) b := List.foldl_append
theorem prStep_lt (n : Nat) (c : UInt8) : prStep n c < 4294967296 := Nat.mod_lt _ (by decide)
theorem prMore_lt (n : Nat) (l : Bytes) (h : n < 4294967296) : prMore n l < 4294967296 := by
  induction l generalizing n with
  | nil => exact h
  | cons c l ih => exact ih _ (prStep_lt n c)
theorem prOf_lt (l : Bytes) : prOf l < 4294967296 := by
  unfold prOf
  exact prMore_lt _ _ (by omega)
theorem list_ba (s : ByteArray) (k : Nat) (_h : k < s.size) (hl : k < s.data.toList.length) : s.data.toList[k] = s[k] := rfl
theorem prMore_one (n : Nat) (c : UInt8) : prMore n [c] = prStep n c := by
  unfold prMore
  rw [List.foldl_cons, List.foldl_nil]
theorem prMore_take_succ (n : Nat) (s : ByteArray) (k : Nat) (h : k < s.size) : prMore n (s.data.toList.take (k + 1)) = prStep (prMore n (s.data.toList.take k)) s[k] := by
  have hl : k < s.data.toList.length := by rw [← size_toList]; exact h
  rw [← list_ba s k h hl, List.take_succ_eq_append_getElem hl, prMore_append, prMore_one]
theorem bits_xor_u32_nat (a b : Nat) (ha : a < 4294967296) (hb : b < 4294967296) : bits .xor .u32 (a : Int) (b : Int) = ((a ^^^ b : Nat) : Int) := by
  have hx : a ^^^ b < 2 ^ 32 := Nat.xor_lt_two_pow (by omega) (by omega)
  have h1 : (BitVec.ofInt 32 (a : Int)).toNat = a := by
    rw [BitVec.ofInt_natCast, BitVec.toNat_ofNat]; exact Nat.mod_eq_of_lt (by omega)
  have h2 : (BitVec.ofInt 32 (b : Int)).toNat = b := by
    rw [BitVec.ofInt_natCast, BitVec.toNat_ofNat]; exact Nat.mod_eq_of_lt (by omega)
  show IntKind.u32.wrap ((BitVec.ofInt 32 (a : Int) ^^^ BitVec.ofInt 32 (b : Int)).toNat : Int) = _
  rw [BitVec.toNat_xor, h1, h2]
  simp [IntKind.wrap, IntKind.bits, IntKind.signed]
  omega
theorem prStep_val (x : Nat) (c : UInt8) (hx : x < 4294967296) : bits .xor .u32 (x : Int) ((c.toNat : Int) % 4294967296) * 16777619 % 4294967296 = ((prStep x c : Nat) : Int) := by
  have hc : c.toNat < 256 := c.toNat_lt
  rw [show (c.toNat : Int) % 4294967296 = (c.toNat : Int) by omega, bits_xor_u32_nat x c.toNat hx (by omega)]
  unfold prStep
  omega
set_option maxRecDepth 100000 in
set_option maxHeartbeats 1000000 in
theorem PMore_any (n : Nat) (hn : n < 4294967296) (s : ByteArray) (w : World) (hs : s.size ≤ maxLen) :
    Calls Tryd.prog 55 #[.int .u32 (n : Int), .string s] w fun e w' => e = .returned (.int .u32 (prMore n s.data.toList : Nat)) ∧ w = w' := by
  unfold maxLen at hs
  go_enter Tryd.func55, Tryd.ntmps55
  go_wp2
  go_loop [0, 8] (fun v i => ∃ k : Nat, k ≤ s.size ∧ v = .int .u32 (prMore n (s.data.toList.take k) : Nat) ∧ i = .int .i64 k) (fun _ i => s.size - (RowKit.intOf i).toNat)
  case atStart => exact ⟨0, Nat.zero_le _, rfl, rfl⟩
  case round =>
    obtain ⟨k, hk, rfl, rfl⟩ := hrel
    by_cases hlt : k < s.size
    · have hl := prMore_lt n (s.data.toList.take k) hn
      have HT := Lib.hid (prMore_take_succ n s k hlt)
      generalize prMore n (s.data.toList.take k) = x at *
      go_wp2
      go_round
      case rel => exact ⟨k + 1, hlt, by rw [HT.out, prStep_val x s[k] hl], by go_num⟩
      case measure => simp [RowKit.intOf]; omega
    · obtain rfl : k = s.size := by omega
      have hq : s.data.toList.take s.size = s.data.toList := List.take_of_length_le (by rw [← size_toList]; exact Nat.le_refl _)
      rw [hq]
      clear hq
      go_wp2
      go_ret
      exact ⟨rfl, rfl⟩
theorem POf_any (s : ByteArray) (w : World) (hs : s.size ≤ maxLen) :
    Calls Tryd.prog 36 #[.string s] w fun e w' => e = .returned (.int .u32 (prOf s.data.toList : Nat)) ∧ w = w' := by
  go_enter Tryd.func36, Tryd.ntmps36
  go_wp2_with fail
  refine (PMore_any 2166136261 (by omega) s _ hs).mono ?_
  rintro e w1 ⟨rfl, rfl⟩
  go_wp2
  go_ret
  exact ⟨rfl, rfl⟩
end Go.Proofs.YthddgclmnbaloaaDoor
/- Plain laws of prints: with one byte another one it is another print; the eight digits tell the number. No program in sight. No conditions. -/
namespace Go.Proofs.YthddgclmnbaloaaDoor
open Go.RowKit Go.Lib

theorem mul_factor_inj (a b : Nat) (ha : a < 4294967296) (hb : b < 4294967296) (h : a * 16777619 % 4294967296 = b * 16777619 % 4294967296) : a = b := by
  have e : ∀ c : Nat, c < 4294967296 → c * 16777619 % 4294967296 * 899433627 % 4294967296 = c := fun c hc => by
    rw [Nat.mul_mod, Nat.mod_mod, ← Nat.mul_mod, Nat.mul_assoc, show 16777619 * 899433627 = 3513497 * 4294967296 + 1 from by decide, Nat.mul_add, Nat.mul_one, ← Nat.mul_assoc, Nat.mul_add_mod_self_right]
    exact Nat.mod_eq_of_lt hc
  rw [← e a ha, ← e b hb, h]
theorem xor_left_cancel (x a b : Nat) (h : x ^^^ a = x ^^^ b) : a = b := by
  have : x ^^^ (x ^^^ a) = x ^^^ (x ^^^ b) := by rw [h]
  simpa [← Nat.xor_assoc] using this
theorem xor_right_cancel (x y a : Nat) (h : x ^^^ a = y ^^^ a) : x = y := by
  rw [Nat.xor_comm x, Nat.xor_comm y] at h
  exact xor_left_cancel a x y h
theorem xor_byte_lt (x : Nat) (c : UInt8) (hx : x < 4294967296) : x ^^^ c.toNat < 4294967296 :=
  Nat.xor_lt_two_pow (n := 32) hx (Nat.lt_of_lt_of_le c.toNat_lt (by decide))
theorem prStep_inj_n (x y : Nat) (c : UInt8) (hx : x < 4294967296) (hy : y < 4294967296) (h : prStep x c = prStep y c) : x = y :=
  xor_right_cancel x y c.toNat (mul_factor_inj _ _ (xor_byte_lt x c hx) (xor_byte_lt y c hy) h)
theorem prStep_inj_c (x : Nat) (c d : UInt8) (hx : x < 4294967296) (h : prStep x c = prStep x d) : c = d :=
  UInt8.toNat_inj.1 (xor_left_cancel x _ _ (mul_factor_inj _ _ (xor_byte_lt x c hx) (xor_byte_lt x d hx) h))
theorem prMore_inj (l : Bytes) : ∀ (x y : Nat), x < 4294967296 → y < 4294967296 → prMore x l = prMore y l → x = y := by
  induction l with
  | nil => intro x y _ _ h; exact h
  | cons c l ih =>
    intro x y hx hy h
    exact prStep_inj_n x y c hx hy (ih _ _ (prStep_lt x c) (prStep_lt y c) h)
/-- with one byte another one it is another print -/
theorem prOf_other (p q : Bytes) (c d : UInt8) (h : c ≠ d) : prOf (p ++ c :: q) ≠ prOf (p ++ d :: q) := by
  intro e
  unfold prOf at e
  rw [prMore_append, prMore_append] at e
  have hl := prMore_lt 2166136261 p (by omega)
  exact h (prStep_inj_c _ c d hl (prMore_inj q _ _ (prStep_lt _ c) (prStep_lt _ d) e))
/-- the digit of a value -/
def hexc (d : Nat) : UInt8 := if d < 10 then UInt8.ofNat (48 + d) else UInt8.ofNat (87 + d)
/-- the digit of a number at a place (0: the last) -/
def hexAt (n j : Nat) : UInt8 := hexc (n / 16 ^ j % 16)
def hexL (n L : Nat) : Bytes := (List.range L).map fun p => hexAt n (L - 1 - p)
/-- eight digits -/
def hex8 (n : Nat) : Bytes := hexL n 8
theorem hexL_length (n L : Nat) : (hexL n L).length = L := by unfold hexL; simp
theorem hexL_succ (n L : Nat) : hexL n (L + 1) = hexAt n L :: hexL n L := by
  unfold hexL
  rw [List.range_succ_eq_map, List.map_cons, List.map_map]
  congr 1
  refine List.map_congr_left fun p hp => ?_
  have : p < L := List.mem_range.1 hp
  show hexAt n (L + 1 - 1 - (p + 1)) = hexAt n (L - 1 - p)
  rw [show L + 1 - 1 - (p + 1) = L - 1 - p by omega]
theorem hexAt_high (n L j : Nat) (h : n < 16 ^ L) (hj : L ≤ j) : hexAt n j = 48 := by
  have : n < 16 ^ j := Nat.lt_of_lt_of_le h (Nat.pow_le_pow_right (by decide) hj)
  unfold hexAt
  rw [Nat.div_eq_of_lt this]; rfl
theorem hexL_zeros (n L : Nat) (h : n < 16 ^ L) : ∀ k, hexL n (L + k) = List.replicate k 48 ++ hexL n L
  | 0 => rfl
  | k + 1 => by rw [← Nat.add_assoc, hexL_succ, hexAt_high n L _ h (by omega), hexL_zeros n L h k]; rfl
theorem hex8_of (n L : Nat) (h : n < 16 ^ L) (hL : L ≤ 8) : List.replicate (8 - L) 48 ++ hexL n L = hex8 n := by
  unfold hex8
  rw [← hexL_zeros n L h (8 - L), show L + (8 - L) = 8 by omega]
end Go.Proofs.YthddgclmnbaloaaDoor
/- Plain laws of eight digits read back. No program in sight. No conditions. -/
namespace Go.Proofs.YthddgclmnbaloaaDoor
open Go.RowKit Go.Lib

/-- a byte's value as a digit, by the library: letters of either case -/
def hexVal (c : UInt8) : Option Nat :=
  if 48 ≤ c.toNat ∧ c.toNat ≤ 57 then some (c.toNat - 48)
  else if 97 ≤ c.toNat ||| 32 ∧ c.toNat ||| 32 ≤ 122 then some ((c.toNat ||| 32) - 87) else none
/-- the library's reading at base 16, of 32 bits -/
def parse16 (acc : Nat) : Bytes → Except Bool Nat
  | [] => .ok acc
  | c :: r => match hexVal c with
    | none => .error false
    | some d => if 16 ≤ d then .error false else if 4294967296 ≤ acc * 16 + d then .error true else parse16 (acc * 16 + d) r
def parseHex (l : Bytes) : Except Bool Nat := if l = [] then .error false else parse16 0 l
theorem hexVal_hexc (d : Nat) (h : d < 16) : hexVal (hexc d) = some d :=
  (show ∀ e : Fin 16, hexVal (hexc e.1) = some e.1 by decide +kernel) ⟨d, h⟩
theorem parse16_hexL (n : Nat) (hn : n < 4294967296) : ∀ L, L ≤ 8 → parse16 (n / 16 ^ L) (hexL n L) = .ok n
  | 0, _ => by simp [hexL, parse16]
  | L + 1, h => by
    rw [hexL_succ]
    simp only [parse16, hexAt, hexVal_hexc (n / 16 ^ L % 16) (Nat.mod_lt _ (by decide))]
    have e : n / 16 ^ (L + 1) * 16 + n / 16 ^ L % 16 = n / 16 ^ L := by
      rw [Nat.pow_succ, ← Nat.div_div_eq_div_mul]; omega
    have hle : n / 16 ^ L ≤ n := Nat.div_le_self _ _
    rw [if_neg (by omega), e, if_neg (by omega)]
    exact parse16_hexL n hn L (by omega)
theorem parseHex_hex8 (n : Nat) (hn : n < 4294967296) : parseHex (hex8 n) = .ok n := by
  unfold parseHex
  rw [if_neg (fun e => by have := hexL_length n 8; unfold hex8 at e; rw [e] at this; simp at this)]
  have := parse16_hexL n hn 8 (Nat.le_refl _)
  rw [Nat.div_eq_of_lt (by omega)] at this
  exact this
theorem parse16_lt (l : Bytes) : ∀ acc n, acc < 4294967296 → parse16 acc l = .ok n → n < 4294967296 := by
  induction l with
  | nil => intro acc n h e; simp only [parse16, Except.ok.injEq] at e; omega
  | cons c l ih =>
    intro acc n h e
    simp only [parse16] at e
    split at e
    · cases e
    · split at e
      · cases e
      · split at e
        · cases e
        · exact ih _ _ (by omega) e
theorem parseHex_lt {l : Bytes} {n : Nat} (h : parseHex l = .ok n) : n < 4294967296 := by
  unfold parseHex at h
  split at h
  · cases h
  · exact parse16_lt l 0 n (by decide) h
/-- the package's reading of eight digits -/
def unhexOf (l : Bytes) : Option Nat := match parseHex l with
  | .ok n => if hex8 n = l then some n else none
  | _ => none
theorem unhexOf_hex8 (n : Nat) (hn : n < 4294967296) : unhexOf (hex8 n) = some n := by
  unfold unhexOf
  rw [parseHex_hex8 n hn]; simp
theorem unhexOf_some {l : Bytes} {n : Nat} (h : unhexOf l = some n) : n < 4294967296 ∧ l = hex8 n := by
  unfold unhexOf at h
  split at h
  · next m hm =>
    split at h
    · next he =>
      injection h with h
      subst h
      exact ⟨parseHex_lt hm, he.symm⟩
    · cases h
  · cases h
end Go.Proofs.YthddgclmnbaloaaDoor
/- Walk of internal/strconv.ParseUint at base 16, 32 bits, at every string. Condition: the length below 2^40. -/
namespace Go.Proofs.YthddgclmnbaloaaDoor
open Go.RowKit Go.Lib

theorem or32 (c : UInt8) : bits .or .u8 (c.toNat : Int) 32 = ((c.toNat ||| 32 : Nat) : Int) := by
  have h : ∀ i : Fin 256, bits .or .u8 (i.1 : Int) 32 = ((i.1 ||| 32 : Nat) : Int) := by decide +kernel
  exact h ⟨c.toNat, c.toNat_lt⟩
theorem or32_lt (c : UInt8) : c.toNat ||| 32 < 256 := Nat.or_lt_two_pow (n := 8) c.toNat_lt (by decide)
theorem hexVal_digit (c : UInt8) (h0 : 48 ≤ c.toNat) (h1 : c.toNat ≤ 57) : hexVal c = some (c.toNat - 48) := by unfold hexVal; rw [if_pos ⟨h0, h1⟩]
theorem hexVal_letter (c : UInt8) (h : ¬ (48 ≤ c.toNat ∧ c.toNat ≤ 57)) (h0 : 97 ≤ c.toNat ||| 32) (h1 : c.toNat ||| 32 ≤ 122) : hexVal c = some ((c.toNat ||| 32) - 87) := by unfold hexVal; rw [if_neg h, if_pos ⟨h0, h1⟩]
theorem hexVal_none (c : UInt8) (h : ¬ (48 ≤ c.toNat ∧ c.toNat ≤ 57)) (h0 : ¬ (97 ≤ c.toNat ||| 32 ∧ c.toNat ||| 32 ≤ 122)) : hexVal c = none := by unfold hexVal; rw [if_neg h, if_neg h0]
theorem parse16_some {acc : Nat} {c : UInt8} {r : Bytes} {d : Nat} (h : hexVal c = some d) (hd : d < 16) (ho : acc * 16 + d < 4294967296) : parse16 acc (c :: r) = parse16 (acc * 16 + d) r := by
  simp only [parse16, h]; rw [if_neg (by omega), if_neg (by omega)]
theorem parse16_over {acc : Nat} {c : UInt8} {r : Bytes} {d : Nat} (h : hexVal c = some d) (hd : d < 16) (ho : 4294967296 ≤ acc * 16 + d) : parse16 acc (c :: r) = .error true := by
  simp only [parse16, h]; rw [if_neg (by omega), if_pos ho]
theorem parse16_big {acc : Nat} {c : UInt8} {r : Bytes} {d : Nat} (h : hexVal c = some d) (hd : 16 ≤ d) : parse16 acc (c :: r) = .error false := by
  simp only [parse16, h]; rw [if_pos hd]
theorem parse16_none {acc : Nat} {c : UInt8} {r : Bytes} (h : hexVal c = none) : parse16 acc (c :: r) = .error false := by
  simp only [parse16, h]
end Go.Proofs.YthddgclmnbaloaaDoor
/- Walk of strconv.FormatUint at base 16. Condition: the one cell of math/bits.deBruijn64tab that is read holds what its initialiser lays. -/
namespace Go.Proofs.YthddgclmnbaloaaDoor
open Go.RowKit Go.Lib

theorem tz_and : bits BinOp.and IntKind.u64 16 (IntKind.u64.wrap (-16)) = 16 := by decide +kernel
theorem tz_mul : IntKind.u64.wrap (16 * 285870213051353865) / 288230376151711744 = 15 := by decide +kernel
def digs : ByteArray := ⟨#[48, 49, 50, 51, 52, 53, 54, 55, 56, 57, 97, 98, 99, 100, 101, 102, 103, 104, 105, 106, 107, 108, 109, 110, 111, 112, 113, 114, 115, 116, 117, 118, 119, 120, 121, 122]⟩
theorem and15 (v : Nat) : bits .and .u64 (v : Int) 15 = ((v % 16 : Nat) : Int) := by
  show IntKind.u64.wrap ((BitVec.ofInt 64 (v : Int) &&& BitVec.ofInt 64 15).toNat : Int) = _
  have h : (BitVec.ofInt 64 (v : Int) &&& BitVec.ofInt 64 15).toNat = v % 16 := by
    rw [BitVec.toNat_and, BitVec.ofInt_natCast, BitVec.toNat_ofNat, show (BitVec.ofInt 64 15).toNat = 2 ^ 4 - 1 from rfl, Nat.and_two_pow_sub_one_eq_mod]
    omega
  rw [h]
  simp [IntKind.wrap, IntKind.bits, IntKind.signed]
  omega
theorem digs_at (d : Nat) (hd : d < 16) : ∃ h : d < digs.size, digs[d] = hexc d :=
  (show ∀ e : Fin 16, ∃ h : e.1 < digs.size, digs[e.1] = hexc e.1 by decide +kernel) ⟨d, hd⟩
theorem idx_digs (z : Int) (d : Nat) (hz : z = (d : Int)) (hd : d < 16) (w : World) :
    (Instr.index 9 (.string ⟨#[48, 49, 50, 51, 52, 53, 54, 55, 56, 57, 97, 98, 99, 100, 101, 102, 103, 104, 105, 106, 107, 108, 109, 110, 111, 112, 113, 114, 115, 116, 117, 118, 119, 120, 121, 122]⟩) (.int .u64 z)).run Tryd.prog w = .ok (.int .u8 ((hexc d).toNat : Int)) w := by
  subst hz
  obtain ⟨h1, h2⟩ := digs_at d hd
  have e : ((d : Int)).toNat = d := by omega
  rw [show (⟨#[48, 49, 50, 51, 52, 53, 54, 55, 56, 57, 97, 98, 99, 100, 101, 102, 103, 104, 105, 106, 107, 108, 109, 110, 111, 112, 113, 114, 115, 116, 117, 118, 119, 120, 121, 122]⟩ : ByteArray) = digs from rfl, run_index_string w 9 digs .u64 _ Tryd.underlying9, dif_pos ⟨by omega, by omega⟩]
  simp only [e]
  rw [h2]

end Go.Proofs.YthddgclmnbaloaaDoor
/- The library's tables that the walks read, kept under whatever leaves old memory alone. No conditions. -/
namespace Go.Proofs.YthddgclmnbaloaaDoor
open Go.RowKit Go.Lib Go.Sort

/-- the search's variable holds some number -/
def MaxL (w : World) : Prop := ∃ m, w.cell? ⟨15, 0, none⟩ = some (.int .i64 m)
theorem MaxL.below {w w' : World} (h : MaxL w) (hb : Below w.heap.size w w') : MaxL w' := by
  obtain ⟨m, hm⟩ := h
  exact ⟨m, (hb.cell (p := ⟨15, 0, none⟩) (World.block_lt_of_cell? w _ hm)).trans hm⟩
end Go.Proofs.YthddgclmnbaloaaDoor

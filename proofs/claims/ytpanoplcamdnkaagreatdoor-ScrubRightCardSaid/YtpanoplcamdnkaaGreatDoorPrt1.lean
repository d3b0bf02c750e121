/- PrA, PrP, PrQ, PrU, PrF, Tabs in one text. Conditions: as each part says. -/
import Derived.Test.YtpanoplcamdnkaaGreatDoorChecked
import Derived.Test.YtpanoplcamdnkaaGreatDoorPlainA
import Derived.WalkKit
import Derived.WalkLawsBesides
import Derived.Handy
import Derived.Below
import Derived.Lib.Hide
import Derived.Lib.Strings
import Derived.Laws.Bits64
import Derived.Test.YtpanoplcamdnkaaGreatDoorShelf
import Derived.Lib.ConvBytes
import Derived.Lib.AtoiErrMem
import Derived.Laws.IdiomStrings
import Derived.Deep.RegionHeld
import Derived.Lib.ItoaMem
import Derived.Lib.SmallJoins
import Derived.Lib.AppendIntMem
/- Plain words of package print, and the walks of More and Of. No conditions. -/
namespace Go.Proofs.YtpanoplcamdnkaaGreatDoor
open Go.RowKit Go.Lib

/-- one byte more -/
def prStep (n : Nat) (c : UInt8) : Nat := ((n ^^^ c.toNat) * 16777619) % 4294967296
/-- a print carried on -/
def prMore (n : Nat) (l : Bytes) : Nat := l.foldl prStep n
def prOf (l : Bytes) : Nat := prMore 2166136261 l
theorem prMore_append (n : Nat) (a b : Bytes) : prMore n (a ++ b) = prMore (prMore n a) b := List.foldl_append
theorem prStep_lt (n : Nat) (c : UInt8) : prStep n c < 4294967296 := Nat.mod_lt _ (by decide)
theorem prMore_lt (n : Nat) (l : Bytes) (h : n < 4294967296) : prMore n l < 4294967296 := by
  induction l generalizing n with
  | nil => exact h
  | cons c l ih => exact ih _ (prStep_lt n c)
theorem prOf_lt (l : Bytes) : prOf l < 4294967296 := by
  unfold prOf
  exact prMore_lt _ _ (by omega)
theorem list_ba (s : ByteArray) (k : Nat) (_h : k < s.size) (hl : k < s.data.toList.length) : s.data.toList[k] = s[k] := rfl
theorem prMore_one (n : Nat) (c : UInt8) : prMore n [c] = prStep n c := by
  unfold prMore
  rw [List.foldl_cons, List.foldl_nil]
theorem prMore_take_succ (n : Nat) (s : ByteArray) (k : Nat) (h : k < s.size) : prMore n (s.data.toList.take (k + 1)) = prStep (prMore n (s.data.toList.take k)) s[k] := by
  have hl : k < s.data.toList.length := by rw [← size_toList]; exact h
  rw [← list_ba s k h hl, List.take_succ_eq_append_getElem hl, prMore_append, prMore_one]
theorem bits_xor_u32_nat (a b : Nat) (ha : a < 4294967296) (hb : b < 4294967296) : bits .xor .u32 (a : Int) (b : Int) = ((a ^^^ b : Nat) : Int) := by
  have hx : a ^^^ b < 2 ^ 32 := Nat.xor_lt_two_pow (by omega) (by omega)
  have h1 : (BitVec.ofInt 32 (a : Int)).toNat = a := by
    rw [BitVec.ofInt_natCast, BitVec.toNat_ofNat]; exact Nat.mod_eq_of_lt (by omega)
  have h2 : (BitVec.ofInt 32 (b : Int)).toNat = b := by
    rw [BitVec.ofInt_natCast, BitVec.toNat_ofNat]; exact Nat.mod_eq_of_lt (by omega)
  show IntKind.u32.wrap ((BitVec.ofInt 32 (a : Int) ^^^ BitVec.ofInt 32 (b : Int)).toNat : Int) = _
  rw [BitVec.toNat_xor, h1, h2]
  simp [IntKind.wrap, IntKind.bits, IntKind.signed]
  omega
theorem prStep_val (x : Nat) (c : UInt8) (hx : x < 4294967296) : bits .xor .u32 (x : Int) ((c.toNat : Int) % 4294967296) * 16777619 % 4294967296 = ((prStep x c : Nat) : Int) := by
  have hc : c.toNat < 256 := c.toNat_lt
  rw [show (c.toNat : Int) % 4294967296 = (c.toNat : Int) by omega, bits_xor_u32_nat x c.toNat hx (by omega)]
  unfold prStep
  omega
set_option maxRecDepth 100000 in
set_option maxHeartbeats 1000000 in
theorem PMore_any (n : Nat) (hn : n < 4294967296) (s : ByteArray) (w : World) (hs : s.size ≤ maxLen) :
    Calls Tryz.prog 115 #[.int .u32 (n : Int), .string s] w fun e w' => e = .returned (.int .u32 (prMore n s.data.toList : Nat)) ∧ w = w' := by
  unfold maxLen at hs
  go_enter Tryz.func115, Tryz.ntmps115
  go_wp2
  go_loop [0, 8] (fun v i => ∃ k : Nat, k ≤ s.size ∧ v = .int .u32 (prMore n (s.data.toList.take k) : Nat) ∧ i = .int .i64 k) (fun _ i => s.size - (RowKit.intOf i).toNat)
  case atStart => exact ⟨0, Nat.zero_le _, rfl, rfl⟩
  case round =>
    obtain ⟨k, hk, rfl, rfl⟩ := hrel
    by_cases hlt : k < s.size
    · have hl := prMore_lt n (s.data.toList.take k) hn
      have HT := Lib.hid (prMore_take_succ n s k hlt)
      generalize prMore n (s.data.toList.take k) = x at *
      go_wp2
      go_round
      case rel => exact ⟨k + 1, hlt, by rw [HT.out, prStep_val x s[k] hl], by go_num⟩
      case measure => simp [RowKit.intOf]; omega
    · obtain rfl : k = s.size := by omega
      have hq : s.data.toList.take s.size = s.data.toList := List.take_of_length_le (by rw [← size_toList]; exact Nat.le_refl _)
      rw [hq]
      clear hq
      go_wp2
      go_ret
      exact ⟨rfl, rfl⟩
theorem POf_any (s : ByteArray) (w : World) (hs : s.size ≤ maxLen) :
    Calls Tryz.prog 66 #[.string s] w fun e w' => e = .returned (.int .u32 (prOf s.data.toList : Nat)) ∧ w = w' := by
  go_enter Tryz.func66, Tryz.ntmps66
  go_wp2_with fail
  refine (PMore_any 2166136261 (by omega) s _ hs).mono ?_
  rintro e w1 ⟨rfl, rfl⟩
  go_wp2
  go_ret
  exact ⟨rfl, rfl⟩
end Go.Proofs.YtpanoplcamdnkaaGreatDoor
/- Plain laws of prints: with one byte another one it is another print; the eight digits tell the number. No program in sight. No conditions. -/
namespace Go.Proofs.YtpanoplcamdnkaaGreatDoor
open Go.RowKit Go.Lib

theorem mul_factor_inj (a b : Nat) (ha : a < 4294967296) (hb : b < 4294967296) (h : a * 16777619 % 4294967296 = b * 16777619 % 4294967296) : a = b := by
  have e : ∀ c : Nat, c < 4294967296 → c * 16777619 % 4294967296 * 899433627 % 4294967296 = c := fun c hc => by
    rw [Nat.mul_mod, Nat.mod_mod, ← Nat.mul_mod, Nat.mul_assoc, show 16777619 * 899433627 = 3513497 * 4294967296 + 1 from by decide, Nat.mul_add, Nat.mul_one, ← Nat.mul_assoc, Nat.mul_add_mod_self_right]
    exact Nat.mod_eq_of_lt hc
  rw [← e a ha, ← e b hb, h]
theorem xor_left_cancel (x a b : Nat) (h : x ^^^ a = x ^^^ b) : a = b := by
  have : x ^^^ (x ^^^ a) = x ^^^ (x ^^^ b) := by rw [h]
  simpa [← Nat.xor_assoc] using this
theorem xor_right_cancel (x y a : Nat) (h : x ^^^ a = y ^^^ a) : x = y := by
  rw [Nat.xor_comm x, Nat.xor_comm y] at h
  exact xor_left_cancel a x y h
theorem xor_byte_lt (x : Nat) (c : UInt8) (hx : x < 4294967296) : x ^^^ c.toNat < 4294967296 :=
  Nat.xor_lt_two_pow (n := 32) hx (Nat.lt_of_lt_of_le c.toNat_lt (by decide))
theorem prStep_inj_n (x y : Nat) (c : UInt8) (hx : x < 4294967296) (hy : y < 4294967296) (h : prStep x c = prStep y c) : x = y :=
  xor_right_cancel x y c.toNat (mul_factor_inj _ _ (xor_byte_lt x c hx) (xor_byte_lt y c hy) h)
theorem prStep_inj_c (x : Nat) (c d : UInt8) (hx : x < 4294967296) (h : prStep x c = prStep x d) : c = d :=
  UInt8.toNat_inj.1 (xor_left_cancel x _ _ (mul_factor_inj _ _ (xor_byte_lt x c hx) (xor_byte_lt x d hx) h))
theorem prMore_inj (l : Bytes) : ∀ (x y : Nat), x < 4294967296 → y < 4294967296 → prMore x l = prMore y l → x = y := by
  induction l with
  | nil => intro x y _ _ h; exact h
  | cons c l ih =>
    intro x y hx hy h
    exact prStep_inj_n x y c hx hy (ih _ _ (prStep_lt x c) (prStep_lt y c) h)
/-- with one byte another one it is another print -/
theorem prOf_other (p q : Bytes) (c d : UInt8) (h : c ≠ d) : prOf (p ++ c :: q) ≠ prOf (p ++ d :: q) := by
  intro e
  unfold prOf at e
  rw [prMore_append, prMore_append] at e
  have hl := prMore_lt 2166136261 p (by omega)
  exact h (prStep_inj_c _ c d hl (prMore_inj q _ _ (prStep_lt _ c) (prStep_lt _ d) e))
/-- the digit of a value -/
def hexc (d : Nat) : UInt8 := if d < 10 then UInt8.ofNat (48 + d) else UInt8.ofNat (87 + d)
/-- the digit of a number at a place (0: the last) -/
def hexAt (n j : Nat) : UInt8 := hexc (n / 16 ^ j % 16)
def hexL (n L : Nat) : Bytes := (List.range L).map fun p => hexAt n (L - 1 - p)
/-- eight digits -/
def hex8 (n : Nat) : Bytes := hexL n 8
theorem hexL_length (n L : Nat) : (hexL n L).length = L := by unfold hexL; simp
theorem hexL_succ (n L : Nat) : hexL n (L + 1) = hexAt n L :: hexL n L := by
  unfold hexL
  rw [List.range_succ_eq_map, List.map_cons, List.map_map]
  congr 1
  refine List.map_congr_left fun p hp => ?_
  have : p < L := List.mem_range.1 hp
  show hexAt n (L + 1 - 1 - (p + 1)) = hexAt n (L - 1 - p)
  rw [show L + 1 - 1 - (p + 1) = L - 1 - p by omega]
theorem hexAt_high (n L j : Nat) (h : n < 16 ^ L) (hj : L ≤ j) : hexAt n j = 48 := by
  have : n < 16 ^ j := Nat.lt_of_lt_of_le h (Nat.pow_le_pow_right (by decide) hj)
  unfold hexAt
  rw [Nat.div_eq_of_lt this]; rfl
theorem hexL_zeros (n L : Nat) (h : n < 16 ^ L) : ∀ k, hexL n (L + k) = List.replicate k 48 ++ hexL n L
  | 0 => rfl
  | k + 1 => by rw [← Nat.add_assoc, hexL_succ, hexAt_high n L _ h (by omega), hexL_zeros n L h k]; rfl
theorem hex8_of (n L : Nat) (h : n < 16 ^ L) (hL : L ≤ 8) : List.replicate (8 - L) 48 ++ hexL n L = hex8 n := by
  unfold hex8
  rw [← hexL_zeros n L h (8 - L), show L + (8 - L) = 8 by omega]
end Go.Proofs.YtpanoplcamdnkaaGreatDoor
/- Plain laws of eight digits read back. No program in sight. No conditions. -/
namespace Go.Proofs.YtpanoplcamdnkaaGreatDoor
open Go.RowKit Go.Lib

/-- a byte's value as a digit, by the library: letters of either case -/
def hexVal (c : UInt8) : Option Nat :=
  if 48 ≤ c.toNat ∧ c.toNat ≤ 57 then some (c.toNat - 48)
  else if 97 ≤ c.toNat ||| 32 ∧ c.toNat ||| 32 ≤ 122 then some ((c.toNat ||| 32) - 87) else none
/-- the library's reading at base 16, of 32 bits -/
def parse16 (acc : Nat) : Bytes → Except Bool Nat
  | [] => .ok acc
  | c :: r => match hexVal c with
    | none => .error false
    | some d => if 16 ≤ d then .error false else if 4294967296 ≤ acc * 16 + d then .error true else parse16 (acc * 16 + d) r
def parseHex (l : Bytes) : Except Bool Nat := if l = [] then .error false else parse16 0 l
theorem hexVal_hexc (d : Nat) (h : d < 16) : hexVal (hexc d) = some d :=
  (show ∀ e : Fin 16, hexVal (hexc e.1) = some e.1 by decide +kernel) ⟨d, h⟩
theorem parse16_hexL (n : Nat) (hn : n < 4294967296) : ∀ L, L ≤ 8 → parse16 (n / 16 ^ L) (hexL n L) = .ok n
  | 0, _ => by simp [hexL, parse16]
  | L + 1, h => by
    rw [hexL_succ]
    simp only [parse16, hexAt, hexVal_hexc (n / 16 ^ L % 16) (Nat.mod_lt _ (by decide))]
    have e : n / 16 ^ (L + 1) * 16 + n / 16 ^ L % 16 = n / 16 ^ L := by
      rw [Nat.pow_succ, ← Nat.div_div_eq_div_mul]; omega
    have hle : n / 16 ^ L ≤ n := Nat.div_le_self _ _
    rw [if_neg (by omega), e, if_neg (by omega)]
    exact parse16_hexL n hn L (by omega)
theorem parseHex_hex8 (n : Nat) (hn : n < 4294967296) : parseHex (hex8 n) = .ok n := by
  unfold parseHex
  rw [if_neg (fun e => by have := hexL_length n 8; unfold hex8 at e; rw [e] at this; simp at this)]
  have := parse16_hexL n hn 8 (Nat.le_refl _)
  rw [Nat.div_eq_of_lt (by omega)] at this
  exact this
theorem parse16_lt (l : Bytes) : ∀ acc n, acc < 4294967296 → parse16 acc l = .ok n → n < 4294967296 := by
  induction l with
  | nil => intro acc n h e; simp only [parse16, Except.ok.injEq] at e; omega
  | cons c l ih =>
    intro acc n h e
    simp only [parse16] at e
    split at e
    · cases e
    · split at e
      · cases e
      · split at e
        · cases e
        · exact ih _ _ (by omega) e
theorem parseHex_lt {l : Bytes} {n : Nat} (h : parseHex l = .ok n) : n < 4294967296 := by
  unfold parseHex at h
  split at h
  · cases h
  · exact parse16_lt l 0 n (by decide) h
/-- the package's reading of eight digits -/
def unhexOf (l : Bytes) : Option Nat := match parseHex l with
  | .ok n => if hex8 n = l then some n else none
  | _ => none
theorem unhexOf_hex8 (n : Nat) (hn : n < 4294967296) : unhexOf (hex8 n) = some n := by
  unfold unhexOf
  rw [parseHex_hex8 n hn]; simp
theorem unhexOf_some {l : Bytes} {n : Nat} (h : unhexOf l = some n) : n < 4294967296 ∧ l = hex8 n := by
  unfold unhexOf at h
  split at h
  · next m hm =>
    split at h
    · next he =>
      injection h with h
      subst h
      exact ⟨parseHex_lt hm, he.symm⟩
    · cases h
  · cases h
end Go.Proofs.YtpanoplcamdnkaaGreatDoor
/- Walk of internal/strconv.ParseUint at base 16, 32 bits, at every string. Condition: the length below 2^40. -/
namespace Go.Proofs.YtpanoplcamdnkaaGreatDoor
open Go.RowKit Go.Lib

theorem or32 (c : UInt8) : bits .or .u8 (c.toNat : Int) 32 = ((c.toNat ||| 32 : Nat) : Int) := by
  have h : ∀ i : Fin 256, bits .or .u8 (i.1 : Int) 32 = ((i.1 ||| 32 : Nat) : Int) := by decide +kernel
  exact h ⟨c.toNat, c.toNat_lt⟩
theorem or32_lt (c : UInt8) : c.toNat ||| 32 < 256 := Nat.or_lt_two_pow (n := 8) c.toNat_lt (by decide)
theorem hexVal_digit (c : UInt8) (h0 : 48 ≤ c.toNat) (h1 : c.toNat ≤ 57) : hexVal c = some (c.toNat - 48) := by unfold hexVal; rw [if_pos ⟨h0, h1⟩]
theorem hexVal_letter (c : UInt8) (h : ¬ (48 ≤ c.toNat ∧ c.toNat ≤ 57)) (h0 : 97 ≤ c.toNat ||| 32) (h1 : c.toNat ||| 32 ≤ 122) : hexVal c = some ((c.toNat ||| 32) - 87) := by unfold hexVal; rw [if_neg h, if_pos ⟨h0, h1⟩]
theorem hexVal_none (c : UInt8) (h : ¬ (48 ≤ c.toNat ∧ c.toNat ≤ 57)) (h0 : ¬ (97 ≤ c.toNat ||| 32 ∧ c.toNat ||| 32 ≤ 122)) : hexVal c = none := by unfold hexVal; rw [if_neg h, if_neg h0]
theorem parse16_some {acc : Nat} {c : UInt8} {r : Bytes} {d : Nat} (h : hexVal c = some d) (hd : d < 16) (ho : acc * 16 + d < 4294967296) : parse16 acc (c :: r) = parse16 (acc * 16 + d) r := by
  simp only [parse16, h]; rw [if_neg (by omega), if_neg (by omega)]
theorem parse16_over {acc : Nat} {c : UInt8} {r : Bytes} {d : Nat} (h : hexVal c = some d) (hd : d < 16) (ho : 4294967296 ≤ acc * 16 + d) : parse16 acc (c :: r) = .error true := by
  simp only [parse16, h]; rw [if_neg (by omega), if_pos ho]
theorem parse16_big {acc : Nat} {c : UInt8} {r : Bytes} {d : Nat} (h : hexVal c = some d) (hd : 16 ≤ d) : parse16 acc (c :: r) = .error false := by
  simp only [parse16, h]; rw [if_pos hd]
theorem parse16_none {acc : Nat} {c : UInt8} {r : Bytes} (h : hexVal c = none) : parse16 acc (c :: r) = .error false := by
  simp only [parse16, h]
/-- the number and the error that come back -/
def ParseRes (e : Except Bool Nat) (x : Int) (r : Value) : Prop :=
  (∃ n, e = .ok n ∧ x = (n : Int) ∧ r = .nilIface) ∨ (e = .error false ∧ x = 0 ∧ r = .iface 331 (.int .i64 2)) ∨ (e = .error true ∧ x = 4294967295 ∧ r = .iface 331 (.int .i64 1))
set_option maxRecDepth 100000 in
set_option maxHeartbeats 4000000 in
theorem IParseUint_16 (t : ByteArray) (ht : t.size ≤ 2 ^ 40) (w : World) :
    Calls Tryz.prog 261 #[.string t, .int .i64 16, .int .i64 32] w fun e w' => ∃ x r, e = .returned (.tuple #[.int .u64 x, r]) ∧ ParseRes (parseHex t.data.toList) x r ∧ Below w.heap.size w w' := by
  by_cases h0 : t.size = 0
  · have hl : t.data.toList = [] := by
      have := size_toList t
      exact List.eq_nil_of_length_eq_zero (by omega)
    have e0 : t = ⟨#[]⟩ := ba_ext (by rw [hl])
    subst e0
    go_enter Tryz.func261, Tryz.ntmps261
    go_wp2
    go_ret2
    exact ⟨_, _, rfl, .inr (.inl ⟨rfl, rfl, rfl⟩), Below.refl _ _⟩
  · have hpos : t.data.toList ≠ [] := fun e => by
      have := size_toList t
      rw [e, List.length_nil] at this; exact h0 this
    have hne : t.toList.isEmpty = false := by
      rw [ByteArray.toList_eq]
      cases hq : t.data.toList with
      | nil => exact absurd hq hpos
      | cons _ _ => rfl
    obtain ⟨bl, hbl⟩ : ∃ bl, t.data.toList = bl := ⟨_, rfl⟩
    have hbs : bl.length = t.size := by rw [← hbl, size_toList]
    have hP : Hid (parseHex t.data.toList = parse16 0 bl) := Lib.hid (by rw [← hbl]; unfold parseHex; rw [if_neg hpos])
    have hcv := Lib.run_convert_string_bytes (P := Tryz.prog) w 9 138 5 t (u := .string) Tryz.underlying9 Tryz.underlying138 Tryz.underlying5
    have hB : ∀ j, (hj : j < t.size) → (Lib.bytesWorld w 5 t).cell? ⟨w.heap.size, j, none⟩ = some (.int .u8 (bl.getD j 0).toNat) := fun j hj => by rw [← hbl]; exact Lib.bytesWorld_cell w 5 t j hj
    have hb := Lib.bytesWorld_below w 5 t
    go_enter Tryz.func261, Tryz.ntmps261
    go_wp2
    have HBS := Lib.hid hbs
    have HBB := Lib.hid hB
    clear hbl hbs hB hcv hpos hne h0
    generalize Lib.bytesWorld w 5 t = W1 at *
    go_loop [12, 13, 101] (fun vu vn vi => ∃ (k acc : Nat) (a : Int), vu = .bool false ∧ vn = .int .u64 a ∧ vi = .int .i64 k ∧ k ≤ t.size ∧ Hid (a = (acc : Int) ∧ acc < 4294967296 ∧ parse16 0 bl = parse16 acc (bl.drop k))) (fun _ _ vi => t.size - (RowKit.intOf vi).toNat)
    case atStart => exact ⟨0, 0, 0, rfl, rfl, rfl, by omega, rfl, by omega, rfl⟩
    case round =>
      obtain ⟨k, acc, a, rfl, rfl, rfl, hk, hh0⟩ := hrel
      obtain ⟨ha, hacc, hh⟩ := hh0.out
      have a0 : 0 ≤ a := by omega
      have a1 : a < 4294967296 := by omega
      clear hh0
      by_cases hkn : k < t.size
      · have hkb : k < bl.length := by rw [HBS.out]; exact hkn
        have hc := HBB.out k hkn
        have hdrop : bl.drop k = bl[k] :: bl.drop (k + 1) := List.drop_eq_getElem_cons hkb
        have hget : bl.getD k 0 = bl[k] := by simp [List.getD, List.getElem?_eq_getElem hkb]
        have hdec := hh
        rw [hdrop] at hdec
        rw [hget] at hc
        generalize bl[k] = c at hc hdec
        have hc256 : c.toNat < 256 := c.toNat_lt
        have hor := or32 c
        have horl := or32_lt c
        clear hdrop hget hh hkb
        by_cases hdig : 48 ≤ c.toNat ∧ c.toNat ≤ 57
        · obtain ⟨hd0, hd1⟩ := hdig
          have hv := hexVal_digit c hd0 hd1
          have hnu : ((c.toNat : Int) == 95) = false := by rw [beq_eq_false_iff_ne]; omega
          by_cases hov : 4294967296 ≤ acc * 16 + (c.toNat - 48)
          · have HD := Lib.hid (hdec.trans (parse16_over hv (by omega) hov))
            have iov : (4294967295 : Int) < a * 16 + ((c.toNat : Int) - 48) := by omega
            clear hdec hv hov hor horl ha hacc
            go_wp2
            go_ret2
            exact ⟨_, _, rfl, .inr (.inr ⟨by rw [hP.out]; exact HD.out, rfl, rfl⟩), hb⟩
          · have HD := Lib.hid (hdec.trans (parse16_some hv (by omega) (by omega)))
            have iov : ¬ (4294967295 : Int) < a * 16 + ((c.toNat : Int) - 48) := by omega
            have hq : a * 16 + ((c.toNat : Int) - 48) = ((acc * 16 + (c.toNat - 48) : Nat) : Int) := by omega
            have HQ : Hid (a * 16 + ((c.toNat : Int) - 48) = ((acc * 16 + (c.toNat - 48) : Nat) : Int) ∧ acc * 16 + (c.toNat - 48) < 4294967296 ∧ parse16 0 bl = parse16 (acc * 16 + (c.toNat - 48)) (bl.drop (k + 1))) := Lib.hid ⟨hq, by omega, HD.out⟩
            clear hdec hv hov hor horl hq ha hacc
            go_wp2
            go_round
            case rel => exact ⟨k + 1, acc * 16 + (c.toNat - 48), a * 16 + ((c.toNat : Int) - 48), rfl, by first | rfl | (congr 1; omega), by go_num, hkn, HQ⟩
            case measure => simp [RowKit.intOf]; omega
        · have hnd := hdig
          by_cases hlet : 97 ≤ c.toNat ||| 32 ∧ c.toNat ||| 32 ≤ 122
          · obtain ⟨hm0, hm1⟩ := hlet
            have hv := hexVal_letter c hnd hm0 hm1
            have hnu : ((c.toNat : Int) == 95) = false := by
              rw [beq_eq_false_iff_ne]
              intro e
              have e2 : c.toNat = 95 := by omega
              rw [e2] at hm1; revert hm1; decide
            have hnd1 : ¬ (48 : Int) ≤ (c.toNat : Int) ∨ ¬ (c.toNat : Int) ≤ 57 := by omega
            generalize c.toNat ||| 32 = m at *
            by_cases hbig : 16 ≤ m - 87
            · have HD := Lib.hid (hdec.trans (parse16_big hv hbig))
              have ib : (103 : Int) ≤ (m : Int) := by omega
              clear hdec hv hbig hdig hnd ha hacc
              go_wp2_with (go_at_call 284; refine (Tryz.internal_strconv_lower _ _).mono ?_; rintro e w' ⟨rfl, rfl⟩)
              all_goals go_ret2
              all_goals exact ⟨_, _, rfl, .inr (.inl ⟨by rw [hP.out]; exact HD.out, rfl, rfl⟩), hb⟩
            · by_cases hov : 4294967296 ≤ acc * 16 + (m - 87)
              · have HD := Lib.hid (hdec.trans (parse16_over hv (by omega) hov))
                have ib : (m : Int) ≤ 102 := by omega
                have iov : (4294967295 : Int) < a * 16 + ((m : Int) - 87) := by omega
                clear hdec hv hbig hdig hnd hov ha hacc
                go_wp2_with (go_at_call 284; refine (Tryz.internal_strconv_lower _ _).mono ?_; rintro e w' ⟨rfl, rfl⟩)
                all_goals go_ret2
                all_goals exact ⟨_, _, rfl, .inr (.inr ⟨by rw [hP.out]; exact HD.out, rfl, rfl⟩), hb⟩
              · have HD := Lib.hid (hdec.trans (parse16_some hv (by omega) (by omega)))
                have ib : (m : Int) ≤ 102 := by omega
                have iov : ¬ (4294967295 : Int) < a * 16 + ((m : Int) - 87) := by omega
                have hq : a * 16 + ((m : Int) - 87) = ((acc * 16 + (m - 87) : Nat) : Int) := by omega
                have HQ : Hid (a * 16 + ((m : Int) - 87) = ((acc * 16 + (m - 87) : Nat) : Int) ∧ acc * 16 + (m - 87) < 4294967296 ∧ parse16 0 bl = parse16 (acc * 16 + (m - 87)) (bl.drop (k + 1))) := Lib.hid ⟨hq, by omega, HD.out⟩
                clear hdec hv hbig hdig hnd hov hq ha hacc
                go_wp2_with (go_at_call 284; refine (Tryz.internal_strconv_lower _ _).mono ?_; rintro e w' ⟨rfl, rfl⟩)
                all_goals exact ⟨⟨k + 1, acc * 16 + (m - 87), a * 16 + ((m : Int) - 87), rfl, by congr 1; omega, by go_num, hkn, HQ⟩, by simp [RowKit.intOf]; omega⟩
          · have HD := Lib.hid (hdec.trans (parse16_none (hexVal_none c hnd hlet)))
            generalize c.toNat ||| 32 = m at *
            have hu0 := bits_lo_u8 .or 95 32
            have hu1 := bits_hi_u8 .or 95 32
            have hml : ¬ ((97 : Int) ≤ (m : Int) ∧ (m : Int) ≤ 122) := by omega
            clear hdec hlet ha hacc
            go_wp2_with (go_at_call 284; refine (Tryz.internal_strconv_lower _ _).mono ?_; rintro e w' ⟨rfl, rfl⟩)
            all_goals go_ret2
            all_goals exact ⟨_, _, rfl, .inr (.inl ⟨by rw [hP.out]; exact HD.out, rfl, rfl⟩), hb⟩
      · obtain rfl : k = t.size := by omega
        have HD : Hid (parse16 0 bl = .ok acc) := Lib.hid (by rw [hh, List.drop_eq_nil_of_le (by rw [HBS.out]; exact Nat.le_refl _)]; rfl)
        have HA := Lib.hid ha
        clear ha hacc hh
        go_wp2
        go_ret2
        exact ⟨_, _, rfl, .inl ⟨acc, by rw [hP.out]; exact HD.out, HA.out, rfl⟩, hb⟩
end Go.Proofs.YtpanoplcamdnkaaGreatDoor
/- Walk of strconv.FormatUint at base 16. Condition: the one cell of math/bits.deBruijn64tab that is read holds what its initialiser lays. -/
namespace Go.Proofs.YtpanoplcamdnkaaGreatDoor
open Go.RowKit Go.Lib

theorem tz_and : bits BinOp.and IntKind.u64 16 (IntKind.u64.wrap (-16)) = 16 := by decide +kernel
theorem tz_mul : IntKind.u64.wrap (16 * 285870213051353865) / 288230376151711744 = 15 := by decide +kernel
set_option maxRecDepth 100000 in
theorem TZ16 (w : World) (h : w.cell? ⟨20, 15, none⟩ = some (.int .u8 4)) : Calls Tryz.prog 273 #[.int .u64 16] w fun e w' => e = .returned (.int .i64 4) ∧ w = w' := by
  have e1 := tz_and
  have e2 := tz_mul
  go_enter Tryz.func273, Tryz.ntmps273
  go_wp2
  go_ret
  exact ⟨rfl, rfl⟩
def digs : ByteArray := ⟨#[48, 49, 50, 51, 52, 53, 54, 55, 56, 57, 97, 98, 99, 100, 101, 102, 103, 104, 105, 106, 107, 108, 109, 110, 111, 112, 113, 114, 115, 116, 117, 118, 119, 120, 121, 122]⟩
theorem and15 (v : Nat) : bits .and .u64 (v : Int) 15 = ((v % 16 : Nat) : Int) := by
  show IntKind.u64.wrap ((BitVec.ofInt 64 (v : Int) &&& BitVec.ofInt 64 15).toNat : Int) = _
  have h : (BitVec.ofInt 64 (v : Int) &&& BitVec.ofInt 64 15).toNat = v % 16 := by
    rw [BitVec.toNat_and, BitVec.ofInt_natCast, BitVec.toNat_ofNat, show (BitVec.ofInt 64 15).toNat = 2 ^ 4 - 1 from rfl, Nat.and_two_pow_sub_one_eq_mod]
    omega
  rw [h]
  simp [IntKind.wrap, IntKind.bits, IntKind.signed]
  omega
theorem digs_at (d : Nat) (hd : d < 16) : ∃ h : d < digs.size, digs[d] = hexc d :=
  (show ∀ e : Fin 16, ∃ h : e.1 < digs.size, digs[e.1] = hexc e.1 by decide +kernel) ⟨d, hd⟩
theorem idx_digs (z : Int) (d : Nat) (hz : z = (d : Int)) (hd : d < 16) (w : World) :
    (Instr.index 9 (.string ⟨#[48, 49, 50, 51, 52, 53, 54, 55, 56, 57, 97, 98, 99, 100, 101, 102, 103, 104, 105, 106, 107, 108, 109, 110, 111, 112, 113, 114, 115, 116, 117, 118, 119, 120, 121, 122]⟩) (.int .u64 z)).run Tryz.prog w = .ok (.int .u8 ((hexc d).toNat : Int)) w := by
  subst hz
  obtain ⟨h1, h2⟩ := digs_at d hd
  have e : ((d : Int)).toNat = d := by omega
  rw [show (⟨#[48, 49, 50, 51, 52, 53, 54, 55, 56, 57, 97, 98, 99, 100, 101, 102, 103, 104, 105, 106, 107, 108, 109, 110, 111, 112, 113, 114, 115, 116, 117, 118, 119, 120, 121, 122]⟩ : ByteArray) = digs from rfl, run_index_string w 9 digs .u64 _ Tryz.underlying9, dif_pos ⟨by omega, by omega⟩]
  simp only [e]
  rw [h2]

/-- the row of 65 bytes: k digits stand at its end -/
structure Hx (b n k : Nat) (w : World) : Prop where
  isb : ∀ j, j < 65 → ∃ c, w.cell? ⟨b, j, none⟩ = some (.int .u8 c)
  nof : ∀ j, j < 65 → w.frozen? ⟨b, j, none⟩ = false
  dig : ∀ j, j < k → w.cell? ⟨b, 64 - j, none⟩ = some (.int .u8 ((hexAt n j).toNat : Int))
theorem Hx.start (n : Nat) (w : World) (b : Nat) (hb : b = w.heap.size) : Hx b n 0 (w.alloc (.cells (Array.replicate 65 (.int .u8 0)) 343)) where
  isb j hj := ⟨0, by rw [World.cell?_alloc_at _ _ _ _ hb, Array.getElem?_replicate, if_pos hj]⟩
  nof j hj := by subst hb; exact World.frozen?_alloc_new _ _ _ _
  dig j hj := absurd hj (Nat.not_lt_zero _)
theorem Hx.step {b n k : Nat} {w : World} (h : Hx b n k w) (hk : k < 65) : Hx b n (k + 1) (w.setCell ⟨b, 64 - k, none⟩ (.int .u8 ((hexAt n k).toNat : Int))) where
  isb j hj := by
    by_cases he : j = 64 - k
    · subst he
      obtain ⟨c, hc⟩ := h.isb (64 - k) (by omega)
      exact ⟨_, World.cell?_setCell_same _ _ _ hc⟩
    · obtain ⟨c, hc⟩ := h.isb j hj
      exact ⟨c, by rw [World.cell?_setCell_other _ _ _ _ (by intro e; injection e; omega)]; exact hc⟩
  nof j hj := by rw [World.frozen?_setCell]; exact h.nof j hj
  dig j hj := by
    by_cases he : j = k
    · subst he
      obtain ⟨c, hc⟩ := h.isb (64 - j) (by omega)
      exact World.cell?_setCell_same _ _ _ hc
    · rw [World.cell?_setCell_other _ _ _ _ (by intro e; injection e; omega)]; exact h.dig j (by omega)

set_option maxRecDepth 100000 in
set_option maxHeartbeats 4000000 in
theorem formatBits_any (n : Nat) (hn : n < 4294967296) (w : World) (h : w.cell? ⟨20, 15, none⟩ = some (.int .u8 4)) :
    Calls Tryz.prog 230 #[.slice none 0 0, .int .u64 (n : Int), .int .i64 16, .bool false, .bool false] w fun e w' =>
      ∃ L, 1 ≤ L ∧ L ≤ 8 ∧ n < 16 ^ L ∧ e = .returned (.tuple #[.slice none 0 0, .string (bs (hexL n L))]) ∧ Below w.heap.size w w' := by
  have hz : ∀ o, (w.alloc o).cell? ⟨20, 15, none⟩ = some (.int .u8 4) := fun o => by
    rw [World.cell?_alloc_some _ _ _ (by rw [h]; rfl)]; exact h
  go_enter Tryz.func230, Tryz.ntmps230
  go_wp2_with (first | (go_at_call 273; refine (TZ16 _ (hz _)).mono ?_; rintro e w1 ⟨rfl, rfl⟩) | go_in)
  go_loopw [1, 13] (fun vu vi wr => ∃ k : Nat, k ≤ 7 ∧ vu = .int .u64 (n / 16 ^ k : Nat) ∧ vi = .int .i64 (65 - (k : Int)) ∧ Hx w.heap.size n k wr ∧ Below w.heap.size w wr) (fun vu _ _ => (RowKit.intOf vu).toNat)
  case atStart => exact ⟨0, by omega, by simp, rfl, by rw [show Tryz.zeroCells343 = Array.replicate 65 (.int .u8 0) from rfl]; exact Hx.start n w _ rfl, (Below.refl _ w).alloc (Nat.le_refl _) _⟩
  case round =>
    obtain ⟨k, hk, rfl, rfl, hx, hb⟩ := hrel
    have hv : n / 16 ^ k < 4294967296 := Nat.lt_of_le_of_lt (Nat.div_le_self _ _) hn
    have hd : hexAt n k = hexc (n / 16 ^ k % 16) := rfl
    have hnx : n / 16 ^ (k + 1) = n / 16 ^ k / 16 := by rw [Nat.pow_succ, Nat.div_div_eq_div_mul]
    by_cases hge : 16 ≤ n / 16 ^ k
    · have hst := hx.step (k := k) (by omega)
      rw [hd] at hst
      generalize n / 16 ^ k = v at *
      have HST := Lib.hid hst
      obtain ⟨c, hc⟩ := hx.isb (65 - k - 1) (by omega)
      have hf := hx.nof (65 - k - 1) (by omega)
      have hidx := idx_digs (bits .and .u64 (v : Int) 15) (v % 16) (and15 v) (Nat.mod_lt _ (by decide))
      have b1 : (16 : Int) ≤ (v : Int) := by omega
      clear hst hd hge
      go_wp2
      have hk7 : k ≤ 6 := by
        rcases Nat.lt_or_ge k 7 with h7 | h7
        · omega
        · obtain rfl : k = 7 := by omega
          rw [Nat.div_eq_of_lt (show n < 16 ^ (7 + 1) by omega)] at hnx
          omega
      go_round
      case rel =>
        refine ⟨k + 1, by omega, by rw [hnx]; rfl, by go_num, ?_, ?_⟩
        · rw [show 65 - k - 1 = 64 - k by omega]; exact HST.out
        · exact hb.setCell (Nat.le_refl _) _
      case measure => simp [RowKit.intOf]; omega
    · have hlt : n < 16 ^ (k + 1) := by
        rw [Nat.pow_succ]
        have hp : 0 < 16 ^ k := Nat.pow_pos (by decide)
        have := (Nat.div_lt_iff_lt_mul hp).1 (show n / 16 ^ k < 16 by omega)
        rw [Nat.mul_comm]; exact this
      have hst := hx.step (k := k) (by omega)
      rw [hd, Nat.mod_eq_of_lt (show n / 16 ^ k < 16 by omega)] at hst
      generalize n / 16 ^ k = v at *
      have HST := Lib.hid hst
      obtain ⟨c, hc⟩ := hx.isb (65 - k - 1) (by omega)
      have hf := hx.nof (65 - k - 1) (by omega)
      have hidx := idx_digs (v : Int) v rfl (by omega)
      have b1 : ¬ (16 : Int) ≤ (v : Int) := by omega
      have hsl : ∀ W, (Instr.sliceAt 343 (.pointer (some ⟨w.heap.size, 0, none⟩)) (some (.int .i64 (65 - (k : Int) - 1))) none none).run Tryz.prog W = .ok (.slice (some ⟨w.heap.size, 65 - k - 1, none⟩) (hexL n (k + 1)).length (hexL n (k + 1)).length) W := fun W => by
        rw [run_sliceAt_array_l W 343 ⟨w.heap.size, 0, none⟩ (by simp [Program.arrayLen, Program.elem, Tryz.underlying343]) .i64 (65 - (k : Int) - 1) (by omega) (by rw [show Tryz.prog.arrayLen 343 = 65 from rfl]; omega)]
        rw [show Tryz.prog.arrayLen 343 = 65 from rfl, show Tryz.prog.elem 343 = 5 from rfl, hexL_length]
        go_simp
        omega
      have hcv := run_convert_bytes_back (P := Tryz.prog) (wr.setCell ⟨w.heap.size, 65 - k - 1, none⟩ (.int .u8 ((hexc v).toNat : Int))) 138 9 5 ⟨w.heap.size, 65 - k - 1, none⟩ (hexL n (k + 1)).length (hexL n (k + 1)) Tryz.underlying138 Tryz.underlying5 Tryz.underlying9 (fun j hj => by
        rw [hexL_length] at hj
        have := HST.out.dig (k - j) (by omega)
        rw [show 64 - (k - j) = 65 - k - 1 + j by omega, show 64 - k = 65 - k - 1 by omega] at this
        rw [Lib.add_plain, this]
        simp [hexL])
      clear hst hd hge
      go_wp2
      have hb' := hb.setCell (p := ⟨w.heap.size, 65 - k - 1, none⟩) (Nat.le_refl _) (.int .u8 ((hexc v).toNat : Int))
      go_ret2
      exact ⟨k + 1, by omega, by omega, hlt, rfl, hb'⟩
theorem FormatUint_any (n : Nat) (hn : n < 4294967296) (w : World) (h : w.cell? ⟨20, 15, none⟩ = some (.int .u8 4)) :
    Calls Tryz.prog 174 #[.int .u64 (n : Int), .int .i64 16] w fun e w' => ∃ L, 1 ≤ L ∧ L ≤ 8 ∧ n < 16 ^ L ∧ e = .returned (.string (bs (hexL n L))) ∧ Below w.heap.size w w' := by
  go_enter Tryz.func174, Tryz.ntmps174
  go_wp2_with (first | (go_at_call 223; go_in) | fail)
  refine (formatBits_any n hn _ h).mono ?_
  rintro e w1 ⟨L, h1, h2, h3, rfl, hb⟩
  go_wp2
  go_ret
  exact ⟨L, h1, h2, h3, rfl, hb⟩
end Go.Proofs.YtpanoplcamdnkaaGreatDoor
/- The library's tables that the walks read, kept under whatever leaves old memory alone. No conditions. -/
namespace Go.Proofs.YtpanoplcamdnkaaGreatDoor
open Go.RowKit Go.Lib Go.Sort

structure Tabs (w : World) : Prop where
  tab : TabIs Tryz.prog w "internal/strconv.uint64pow10" .u64 pow10Tab
  db : w.cell? ⟨20, 15, none⟩ = some (.int .u8 4)
theorem Tabs.below {w w' : World} (h : Tabs w) (hb : Below w.heap.size w w') : Tabs w' where
  tab := Go.Joins.tab_stays (g := 14) (by kernel_rfl) h.tab hb (Nat.le_refl _)
  db := (hb.cell (p := ⟨20, 15, none⟩) (World.block_lt_of_cell? w _ h.db)).trans h.db
/-- the search's variable holds some number -/
def MaxL (w : World) : Prop := ∃ m, w.cell? ⟨13, 0, none⟩ = some (.int .i64 m)
theorem MaxL.below {w w' : World} (h : MaxL w) (hb : Below w.heap.size w w') : MaxL w' := by
  obtain ⟨m, hm⟩ := h
  exact ⟨m, (hb.cell (p := ⟨13, 0, none⟩) (World.block_lt_of_cell? w _ hm)).trans hm⟩
end Go.Proofs.YtpanoplcamdnkaaGreatDoor

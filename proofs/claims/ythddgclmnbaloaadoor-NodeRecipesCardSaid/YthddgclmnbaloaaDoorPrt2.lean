/- PrT, PlainC, Sents, Ev, Atoi, PrV, PrW, PrL in one text. Conditions: as each part says. -/
import Derived.Test.YthddgclmnbaloaaDoorPrt1
import Derived.Test.YthddgclmnbaloaaDoorPlainN
import Derived.Lib.ItoaLen
import Derived.Test.YthddgclmnbaloaaDoorHeld
import Derived.Lib.IndexMore
import Derived.Lib.Index
import Derived.Test.YthddgclmnbaloaaDoorChecked
import Derived.WalkKit
import Derived.Below
import Derived.Lib.Hide
import Derived.Test.YthddgclmnbaloaaDoorShelf
import Derived.Test.YthddgclmnbaloaaDoorPlainA
import Derived.Lib.AtoiErrMem
import Derived.Lib.AtoiTie
/- Walks of print.Hex, strconv.Itoa, print.Text, print.ID. Condition: the library's tables lie as the text lays them (Tabs). -/
namespace Go.Proofs.YthddgclmnbaloaaDoor
open Go.RowKit Go.Lib

theorem cat_bs (a b : Bytes) : bs a ++ bs b = bs (a ++ b) := by
  apply ba_ext
  rw [bs_toList, show (bs a ++ bs b).data.toList = (bs a).data.toList ++ (bs b).data.toList by simp, bs_toList, bs_toList]
def idText (p : Nat) (l : Int) : Bytes := if l < 0 then [] else hex8 p ++ 45 :: itoa l
theorem ID_any (s : ByteArray) (w : World) (hs : s.size ≤ maxLen) :
    Calls Tryd.prog 37 #[.string s] w fun e w' => e = .returned (.agg #[.int .u32 (prOf s.data.toList : Nat), .int .i64 (s.size : Int)]) ∧ Below w.heap.size w w' := by
  go_enter Tryd.func37, Tryd.ntmps37
  go_wp2_with fail
  refine (POf_any s _ hs).mono ?_
  rintro e w1 ⟨rfl, rfl⟩
  have hb := (Below.refl w.heap.size w).alloc (Nat.le_refl _) (.cells #[.int .u32 0, .int .i64 0] 44)
  have hb1 := fun x => ((Below.refl w.heap.size w).alloc (Nat.le_refl _) (.cells #[.int .u32 ((prOf s.data.toList : Nat) : Int), x] 44))
  go_wp2
  go_returns
  exact ⟨rfl, hb1 _⟩
end Go.Proofs.YthddgclmnbaloaaDoor
/- Plain words: a text cut at a byte, as the library's Cut does. No program in sight. No conditions. -/
namespace Go.Proofs.YthddgclmnbaloaaDoor
open Go.Lib

def byteCut (b : UInt8) : List UInt8 → Option (List UInt8 × List UInt8)
  | [] => none
  | c :: l => if c = b then some ([], l) else (byteCut b l).map fun p => (c :: p.1, p.2)
theorem byteCut_of (b : UInt8) (d r : List UInt8) (h : b ∉ d) : byteCut b (d ++ b :: r) = some (d, r) := by
  induction d with
  | nil => simp [byteCut]
  | cons c d ih =>
    have hc : c ≠ b := fun e => h (by simp [e])
    have hd : b ∉ d := fun e => h (List.mem_cons_of_mem _ e)
    simp [byteCut, hc, ih hd]
theorem byteCut_some (b : UInt8) (l d r : List UInt8) (h : byteCut b l = some (d, r)) : l = d ++ b :: r ∧ b ∉ d := by
  induction l generalizing d with
  | nil => simp [byteCut] at h
  | cons c l ih =>
    simp only [byteCut] at h
    split at h
    · next hc =>
      simp only [Option.some.injEq, Prod.mk.injEq] at h
      obtain ⟨rfl, rfl⟩ := h
      simp [hc]
    · next hc =>
      cases hb : byteCut b l with
      | none => simp [hb] at h
      | some p =>
        obtain ⟨d', r'⟩ := p
        simp only [hb, Option.map_some, Option.some.injEq, Prod.mk.injEq] at h
        obtain ⟨rfl, rfl⟩ := h
        obtain ⟨h1, h2⟩ := ih d' hb
        refine ⟨by rw [h1]; rfl, fun e => ?_⟩
        rcases List.mem_cons.1 e with e | e
        · exact hc e.symm
        · exact h2 e
theorem byteCut_none (b : UInt8) (l : List UInt8) : byteCut b l = none ↔ b ∉ l := by
  induction l with
  | nil => simp [byteCut]
  | cons c l ih =>
    simp only [byteCut]
    by_cases hc : c = b
    · simp [hc]
    · rw [if_neg hc]
      simp [ih, Ne.symm hc, show ¬ b = c from fun e => hc e.symm]
theorem index_cons (b c : UInt8) (l : List UInt8) : index (c :: l) [b] = if c = b then 0 else if index l [b] = -1 then -1 else index l [b] + 1 := by
  by_cases hc : c = b
  · subst hc; simp [index, List.isPrefixOf]
  · have : ([b].isPrefixOf (c :: l)) = false := by
      have hbc : (b == c) = false := by rw [beq_eq_false_iff_ne]; exact fun e => hc e.symm
      simp only [List.isPrefixOf, hbc, Bool.false_and]
    rw [index, this]
    simp [hc]
theorem index_none (b : UInt8) (l : List UInt8) (h : b ∉ l) : index l [b] = -1 := by
  induction l with
  | nil => rfl
  | cons c l ih =>
    have hc : c ≠ b := fun e => h (by simp [e])
    rw [index_cons, if_neg hc, ih (fun e => h (List.mem_cons_of_mem _ e)), if_pos rfl]
theorem index_hit (b : UInt8) (d r : List UInt8) (h : b ∉ d) : index (d ++ b :: r) [b] = (d.length : Int) := by
  induction d with
  | nil => rw [List.nil_append, index_cons, if_pos rfl]; rfl
  | cons c d ih =>
    have hc : c ≠ b := fun e => h (by simp [e])
    rw [List.cons_append, index_cons, if_neg hc, ih (fun e => h (List.mem_cons_of_mem _ e)), if_neg (by omega), List.length_cons]
    omega
theorem cut_some (b : UInt8) (l d r : List UInt8) (h : byteCut b l = some (d, r)) : cut l [b] = (d, r, true) := by
  obtain ⟨rfl, hb⟩ := byteCut_some b l d r h
  unfold cut
  rw [index_hit b d r hb, if_pos (by omega), Int.toNat_natCast]
  simp
theorem cut_none (b : UInt8) (l : List UInt8) (h : byteCut b l = none) : cut l [b] = (l, [], false) := by
  unfold cut
  rw [index_none b l ((byteCut_none b l).1 h), if_neg (by omega)]
end Go.Proofs.YthddgclmnbaloaaDoor
/- The twelve sentinels' variables and the type handle's, kept under whatever leaves old memory alone. No conditions. -/
namespace Go.Proofs.YthddgclmnbaloaaDoor
open Go.RowKit

/-- The variables' numbers, in the order of plain.Code's list. -/
def sv (k : Nat) : Nat := [7, 4, 8, 3, 2, 0, 1, 9, 10, 5, 6, 11].getD k 0
/-- Sentinel k's value. -/
def sval (a : Nat → Addr) (k : Nat) : Value := .iface 211 (.pointer (some (a k)))
structure Sents (a : Nat → Addr) (w : World) : Prop where
  cell : ∀ k, k < 12 → w.cell? ⟨sv k, 0, none⟩ = some (sval a k)
  row : ∀ k, k < 12 → ∃ c t, w.heap[(a k).block]? = some (.cells c t (0, 0))
  inj : ∀ i j, i < 12 → j < 12 → i ≠ j → a i ≠ a j
  ety : w.cell? ⟨12, 0, none⟩ = some (.iface 165 (.agg #[.pointer (some ⟨16, 30, none⟩)]))
theorem lt_of_heap {w : World} {k : Nat} {o : Obj} (h : w.heap[k]? = some o) : k < w.heap.size := by
  rcases Nat.lt_or_ge k w.heap.size with h' | h'
  · exact h'
  · simp [Array.getElem?_eq_none h'] at h
theorem Sents.below {a : Nat → Addr} {w w' : World} (h : Sents a w) (hb : Below w.heap.size w w') : Sents a w' where
  cell k hk := (hb.cell (p := ⟨sv k, 0, none⟩) (World.block_lt_of_cell? w _ (h.cell k hk))).trans (h.cell k hk)
  row k hk := by
    obtain ⟨c, t, hr⟩ := h.row k hk
    exact ⟨c, t, (hb.block _ (lt_of_heap hr)).trans hr⟩
  inj := h.inj
  ety := (hb.cell (p := ⟨12, 0, none⟩) (World.block_lt_of_cell? w _ h.ety)).trans h.ety
end Go.Proofs.YthddgclmnbaloaaDoor
/- An error value by number and place, told by its form alone: nil, a sentinel, a fault over a sentinel. No conditions. -/
namespace Go.Proofs.YthddgclmnbaloaaDoor
open Go.RowKit

/-- these sentinels' variables hold what a names -/
def SomeS (ks : List Nat) (a : Nat → Addr) (w : World) : Prop := ∀ k ∈ ks, w.cell? ⟨sv k, 0, none⟩ = some (sval a k)
theorem SomeS.below {ks : List Nat} {a : Nat → Addr} {w w' : World} (h : SomeS ks a w) (hb : Below w.heap.size w w') : SomeS ks a w' := fun k hk =>
  (hb.cell (p := ⟨sv k, 0, none⟩) (World.block_lt_of_cell? w _ (h k hk))).trans (h k hk)
theorem Sents.someS {a : Nat → Addr} {w : World} (h : Sents a w) (ks : List Nat) (hk : ∀ k ∈ ks, k < 12) : SomeS ks a w := fun k hm => h.cell k (hk k hm)
/-- v is an error of number c and place t -/
def EV (a : Nat → Addr) (v : Value) (c t : Int) (w : World) : Prop :=
  (v = .nilIface ∧ c = 0 ∧ t = -1) ∨ (∃ k : Nat, k < 12 ∧ v = sval a k ∧ c = (k : Int) + 1 ∧ t = -1) ∨
    ∃ k b o : Nat, k < 12 ∧ v = .iface 109 (.pointer (some ⟨b, o, none⟩)) ∧ c = (k : Int) + 1 ∧ w.cell? ⟨b, o, none⟩ = some (.int .i64 t) ∧ w.cell? ⟨b, o + 1, none⟩ = some (sval a k)
theorem EV.none (a : Nat → Addr) (w : World) : EV a .nilIface 0 (-1) w := .inl ⟨rfl, rfl, rfl⟩
theorem EV.sent (a : Nat → Addr) (w : World) (k : Nat) (hk : k < 12) : EV a (sval a k) ((k : Int) + 1) (-1) w := .inr (.inl ⟨k, hk, rfl, rfl, rfl⟩)
theorem EV.fault {a : Nat → Addr} {w : World} (k : Nat) (hk : k < 12) {b o : Nat} {t : Int} (h0 : w.cell? ⟨b, o, .none⟩ = some (.int .i64 t)) (h1 : w.cell? ⟨b, o + 1, .none⟩ = some (sval a k)) :
    EV a (.iface 109 (.pointer (some ⟨b, o, .none⟩))) ((k : Int) + 1) t w := .inr (.inr ⟨k, b, o, hk, rfl, rfl, h0, h1⟩)
theorem EV.nil {a : Nat → Addr} {v : Value} {c t : Int} {w : World} (h : EV a v c t w) (hc : c = 0) : v = .nilIface ∧ t = -1 := by
  rcases h with ⟨h, _, h2⟩ | ⟨k, _, _, h, _⟩ | ⟨k, b, o, _, _, h, _⟩
  · exact ⟨h, h2⟩
  · omega
  · omega
theorem EV.some {a : Nat → Addr} {v : Value} {c t : Int} {w : World} (h : EV a v c t w) (hc : c ≠ 0) : ∃ T p, v = .iface T p := by
  rcases h with ⟨_, h, _⟩ | ⟨k, _, h, _⟩ | ⟨k, b, o, _, h, _⟩
  · exact absurd h hc
  · exact ⟨_, _, h⟩
  · exact ⟨_, _, h⟩
theorem EV.below {a : Nat → Addr} {v : Value} {c t : Int} {w w' : World} (h : EV a v c t w) (hb : Below w.heap.size w w') : EV a v c t w' := by
  rcases h with h | h | ⟨k, b, o, hk, h1, h2, h3, h4⟩
  · exact .inl h
  · exact .inr (.inl h)
  · exact .inr (.inr ⟨k, b, o, hk, h1, h2, (hb.cell (p := ⟨b, o, .none⟩) (World.block_lt_of_cell? w _ h3)).trans h3, (hb.cell (p := ⟨b, o + 1, .none⟩) (World.block_lt_of_cell? w _ h4)).trans h4⟩)
theorem EV_mk (a : Nat → Addr) (w : World) (k : Nat) (hk : k < 12) (t : Int) (tg : TypeId) : EV a (.iface 109 (.pointer (some ⟨w.heap.size, 0, none⟩))) ((k : Int) + 1) t (w.alloc (.cells #[.int .i64 t, .iface 211 (.pointer (some (a k)))] tg)) :=
  EV.fault k hk (by rw [World.cell?_alloc_at _ _ _ _ rfl]; rfl) (by rw [World.cell?_alloc_at _ _ _ _ rfl]; rfl)
/-- an error that is none or a sentinel: it stands in whatever world -/
def ES (a : Nat → Addr) (v : Value) (c : Int) : Prop := (v = .nilIface ∧ c = 0) ∨ ∃ k : Nat, k < 12 ∧ v = sval a k ∧ c = (k : Int) + 1
theorem ES.none (a : Nat → Addr) : ES a .nilIface 0 := .inl ⟨rfl, rfl⟩
theorem ES.sent (a : Nat → Addr) (k : Nat) (hk : k < 12) : ES a (sval a k) ((k : Int) + 1) := .inr ⟨k, hk, rfl, rfl⟩
theorem ES.ev {a : Nat → Addr} {v : Value} {c : Int} (h : ES a v c) (w : World) : EV a v c (-1) w := by
  rcases h with ⟨rfl, rfl⟩ | ⟨k, hk, rfl, rfl⟩
  · exact EV.none a w
  · exact EV.sent a w k hk
theorem ES.nil {a : Nat → Addr} {v : Value} {c : Int} (h : ES a v c) (hc : c = 0) : v = .nilIface ∧ True := by
  rcases h with ⟨h, _⟩ | ⟨k, _, _, h⟩
  · exact ⟨h, trivial⟩
  · omega
theorem ES.some {a : Nat → Addr} {v : Value} {c : Int} (h : ES a v c) (hc : c ≠ 0) : ∃ T p, v = .iface T p := by
  rcases h with ⟨_, h⟩ | ⟨k, _, h, _⟩
  · exact absurd h hc
  · exact ⟨_, _, h⟩
end Go.Proofs.YthddgclmnbaloaaDoor
/- strconv.Atoi by two contracts: a number, or an error. Condition: strconv's two error variables hold errors (Perrs). -/
namespace Go.Proofs.YthddgclmnbaloaaDoor
open Go.RowKit Go.Lib

/-- the number that a text is, if Atoi finds one -/
def atoiO (l : List UInt8) : Option Int := match atoiAll l with
  | .ok v => some v
  | _ => none
theorem atoiO_digits (l : List UInt8) (n : Nat) (h : atoiAll l = .ok (n : Int)) : atoiO l = some (n : Int) := by unfold atoiO; rw [h]
theorem atoiO_ok {l : List UInt8} {v : Int} (h : atoiO l = some v) : atoiAll l = .ok v := by
  unfold atoiO at h
  cases hA : atoiAll l with
  | ok x => rw [hA] at h; injection h with h; rw [h]
  | _ => rw [hA] at h; cases h
end Go.Proofs.YthddgclmnbaloaaDoor
/- Walks of strconv.ParseUint (base 16), print.Unhex, strconv.Atoi, print.Number, print.Read. Condition: strconv's two error variables hold errors (Perrs), the tables and ErrText lie as named. -/
namespace Go.Proofs.YthddgclmnbaloaaDoor
open Go.RowKit Go.Lib

theorem neq_of_beq {a b : ByteArray} {x : Bool} (h : (a.toList == b.toList) = x) : (a.toList != b.toList) = !x := by rw [bne, h]
end Go.Proofs.YthddgclmnbaloaaDoor
/- Walks of print.Number, print.Read. Condition: strconv's two error variables hold errors (Perrs), the tables, MaxLen and ErrText lie as named. -/
namespace Go.Proofs.YthddgclmnbaloaaDoor
open Go.RowKit Go.Lib

/-- the number of a text without needless signs, of so many bytes at most -/
def numOf (l : Bytes) (m : Nat) : Option Nat := match atoiO l with
  | some v => if l.length ≤ m ∧ 0 ≤ v ∧ itoa v = l then some v.toNat else none
  | none => none
def numVal (l : Bytes) (m : Nat) : Int := ((numOf l m).getD 0 : Nat)
theorem numOf_some {l : Bytes} {m k : Nat} (h : numOf l m = some k) : atoiO l = some (k : Int) ∧ l.length ≤ m ∧ l = decDigits k := by
  unfold numOf at h
  cases hv : atoiO l with
  | none => rw [hv] at h; cases h
  | some v =>
    rw [hv] at h
    simp only at h
    split at h
    · next hc =>
      obtain ⟨h1, h2, h3⟩ := hc
      injection h with h
      subst h
      refine ⟨by rw [show ((v.toNat : Nat) : Int) = v by omega], h1, ?_⟩
      rw [← itoa_nat, show ((v.toNat : Nat) : Int) = v by omega, h3]
    · cases h
theorem numOf_dec (k m : Nat) (hk : k < 10 ^ 18) (hm : (decDigits k).length ≤ m) : numOf (decDigits k) m = some k := by
  unfold numOf
  rw [atoiO_digits _ _ (atoiAll_decDigits k hk)]
  simp only
  rw [if_pos ⟨hm, by omega, itoa_nat k⟩, Int.toNat_natCast]
theorem atoiO_bounds {l : Bytes} {v : Int} (h : atoiO l = some v) : -9223372036854775808 ≤ v ∧ v ≤ 9223372036854775807 := Lib.atoiAll_bounds (atoiO_ok h)
/-- an ID's text, read -/
def readId (l : Bytes) : Option (Nat × Nat) := match byteCut 45 l with
  | none => none
  | some (h, d) => match unhexOf h, numOf d 6 with
    | some n, some k => some (n, k)
    | _, _ => none
theorem rd_cells (w : World) (b : Nat) (x y u v : Value) (h0 : w.cell? ⟨b, 0, none⟩ = some x) (h1 : w.cell? ⟨b, 1, none⟩ = some y) :
    ((w.setCell ⟨b, 0, none⟩ u).setCell ⟨b, 1, none⟩ v).cell? ⟨b, 0, none⟩ = some u ∧ ((w.setCell ⟨b, 0, none⟩ u).setCell ⟨b, 1, none⟩ v).cell? ⟨b, 1, none⟩ = some v := by
  have hne : (⟨b, 0, none⟩ : Addr) ≠ ⟨b, 1, none⟩ := by intro h; injection h with _ h; cases h
  have p1 : (w.setCell ⟨b, 0, none⟩ u).cell? ⟨b, 1, none⟩ = some y := (World.cell?_setCell_other _ _ _ _ hne).trans h1
  have p0 : (w.setCell ⟨b, 0, none⟩ u).cell? ⟨b, 0, none⟩ = some u := World.cell?_setCell_same _ _ _ h0
  exact ⟨(World.cell?_setCell_other _ _ _ _ hne.symm).trans p0, World.cell?_setCell_same _ _ _ p1⟩
end Go.Proofs.YthddgclmnbaloaaDoor
/- Walk of printed (a closed fact). Condition: the tables and MaxLen lie as named (PrW). -/
namespace Go.Proofs.YthddgclmnbaloaaDoor
open Go.RowKit Go.Lib

theorem hexc_no (d : Nat) (h : d < 16) : hexc d ≠ 45 := (show ∀ e : Fin 16, hexc e.1 ≠ 45 by decide) ⟨d, h⟩
theorem hex8_no (p : Nat) : (45 : UInt8) ∉ hex8 p := fun h => by
  unfold hex8 hexL at h
  obtain ⟨j, _, hj⟩ := List.mem_map.1 h
  exact hexc_no _ (Nat.mod_lt _ (by decide)) hj
/-- what is written is read -/
theorem readId_text (p k : Nat) (hp : p < 4294967296) (hk : k < 1000000) : readId (idText p (k : Int)) = some (p, k) := by
  unfold idText
  rw [if_neg (by omega), itoa_nat]
  unfold readId
  rw [byteCut_of 45 (hex8 p) _ (hex8_no p)]
  simp only [unhexOf_hex8 p hp, numOf_dec k 6 (by omega) (by rw [decDigits_length]; exact nDigits_le_of k 5 (by omega))]
theorem decDigits_zero : decDigits 0 = [48] := by rw [decDigits, dif_pos (by decide)]; rfl
theorem prText0 : idText 2166136261 0 = [56, 49, 49, 99, 57, 100, 99, 53, 45, 48] := by
  unfold idText
  rw [if_neg (by decide), show itoa 0 = [48] from by rw [show (0 : Int) = ((0 : Nat) : Int) from rfl, itoa_nat, decDigits_zero]]
  decide +kernel
theorem prRead0 : readId [56, 49, 49, 99, 57, 100, 99, 53, 45, 48] = some (2166136261, 0) := by
  rw [← prText0]
  exact readId_text 2166136261 0 (by decide) (by decide)
end Go.Proofs.YthddgclmnbaloaaDoor

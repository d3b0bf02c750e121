/- PrT, PlainC, Sents, Ev, Atoi, PrV, PrW, PrL in one text. Conditions: as each part says. -/
import Derived.Test.YtpanoplcamdnkaaGreatDoorPrt1
import Derived.Test.YtpanoplcamdnkaaGreatDoorPlainN
import Derived.Lib.ItoaLen
import Derived.Test.YtpanoplcamdnkaaGreatDoorBse1
import Derived.Lib.IndexMore
import Derived.Lib.Index
import Derived.Test.YtpanoplcamdnkaaGreatDoorChecked
import Derived.WalkKit
import Derived.Below
import Derived.Lib.Hide
import Derived.Test.YtpanoplcamdnkaaGreatDoorShelf
import Derived.Test.YtpanoplcamdnkaaGreatDoorPlainA
import Derived.Lib.AtoiErrMem
import Derived.Lib.AtoiTie
/- Walks of print.Hex, strconv.Itoa, print.Text, print.ID. Condition: the library's tables lie as the text lays them (Tabs). -/
namespace Go.Proofs.YtpanoplcamdnkaaGreatDoor
open Go.RowKit Go.Lib

def idText (p : Nat) (l : Int) : Bytes := if l < 0 then [] else hex8 p ++ 45 :: itoa l
theorem ID_any (s : ByteArray) (w : World) (hs : s.size ≤ maxLen) :
    Calls Tryz.prog 24 #[.string s] w fun e w' => e = .returned (.agg #[.int .u32 (prOf s.data.toList : Nat), .int .i64 (s.size : Int)]) ∧ Below w.heap.size w w' := by
  go_enter Tryz.func24, Tryz.ntmps24
  go_wp2_with fail
  refine (POf_any s _ hs).mono ?_
  rintro e w1 ⟨rfl, rfl⟩
  have hb := (Below.refl w.heap.size w).alloc (Nat.le_refl _) (.cells #[.int .u32 0, .int .i64 0] 47)
  have hb1 := fun x => ((Below.refl w.heap.size w).alloc (Nat.le_refl _) (.cells #[.int .u32 ((prOf s.data.toList : Nat) : Int), x] 47))
  go_wp2
  go_returns
  exact ⟨rfl, hb1 _⟩
end Go.Proofs.YtpanoplcamdnkaaGreatDoor
/- Plain words: a text cut at a byte, as the library's Cut does. No program in sight. No conditions. -/
namespace Go.Proofs.YtpanoplcamdnkaaGreatDoor
open Go.Lib

def byteCut (b : UInt8) : List UInt8 → Option (List UInt8 × List UInt8)
  | [] => none
  | c :: l => if c = b then some ([], l) else (byteCut b l).map fun p => (c :: p.1, p.2)
theorem byteCut_some (b : UInt8) (l d r : List UInt8) (h : byteCut b l = some (d, r)) : l = d ++ b :: r ∧ b ∉ d := by
  induction l generalizing d with
  | nil => simp [byteCut] at h
  | cons c l ih =>
    simp only [byteCut] at h
    split at h
    · next hc =>
      simp only [Option.some.injEq, Prod.mk.injEq] at h
      obtain ⟨rfl, rfl⟩ := h
      simp [hc]
    · next hc =>
      cases hb : byteCut b l with
      | none => simp [hb] at h
      | some p =>
        obtain ⟨d', r'⟩ := p
        simp only [hb, Option.map_some, Option.some.injEq, Prod.mk.injEq] at h
        obtain ⟨rfl, rfl⟩ := h
        obtain ⟨h1, h2⟩ := ih d' hb
        refine ⟨by rw [h1]; rfl, fun e => ?_⟩
        rcases List.mem_cons.1 e with e | e
        · exact hc e.symm
        · exact h2 e
end Go.Proofs.YtpanoplcamdnkaaGreatDoor
/- The twelve sentinels' variables and the type handle's, kept under whatever leaves old memory alone. No conditions. -/
namespace Go.Proofs.YtpanoplcamdnkaaGreatDoor
open Go.RowKit

/-- The variables' numbers, in the order of plain.Code's list. -/
def sv (k : Nat) : Nat := [5, 3, 8, 9, 2, 0, 1, 7, 10, 4, 6, 11].getD k 0
/-- Sentinel k's value. -/
def sval (a : Nat → Addr) (k : Nat) : Value := .iface 361 (.pointer (some (a k)))
structure Sents (a : Nat → Addr) (w : World) : Prop where
  cell : ∀ k, k < 12 → w.cell? ⟨sv k, 0, none⟩ = some (sval a k)
  row : ∀ k, k < 12 → ∃ c t, w.heap[(a k).block]? = some (.cells c t (0, 0))
  inj : ∀ i j, i < 12 → j < 12 → i ≠ j → a i ≠ a j
  ety : w.cell? ⟨12, 0, none⟩ = some (.iface 295 (.agg #[.pointer (some ⟨21, 31, none⟩)]))
theorem lt_of_heap {w : World} {k : Nat} {o : Obj} (h : w.heap[k]? = some o) : k < w.heap.size := by
  rcases Nat.lt_or_ge k w.heap.size with h' | h'
  · exact h'
  · simp [Array.getElem?_eq_none h'] at h
theorem Sents.below {a : Nat → Addr} {w w' : World} (h : Sents a w) (hb : Below w.heap.size w w') : Sents a w' where
  cell k hk := (hb.cell (p := ⟨sv k, 0, none⟩) (World.block_lt_of_cell? w _ (h.cell k hk))).trans (h.cell k hk)
  row k hk := by
    obtain ⟨c, t, hr⟩ := h.row k hk
    exact ⟨c, t, (hb.block _ (lt_of_heap hr)).trans hr⟩
  inj := h.inj
  ety := (hb.cell (p := ⟨12, 0, none⟩) (World.block_lt_of_cell? w _ h.ety)).trans h.ety
end Go.Proofs.YtpanoplcamdnkaaGreatDoor
/- An error value by number and place, told by its form alone: nil, a sentinel, a fault over a sentinel. No conditions. -/
namespace Go.Proofs.YtpanoplcamdnkaaGreatDoor
open Go.RowKit

/-- these sentinels' variables hold what a names -/
def SomeS (ks : List Nat) (a : Nat → Addr) (w : World) : Prop := ∀ k ∈ ks, w.cell? ⟨sv k, 0, none⟩ = some (sval a k)
theorem SomeS.below {ks : List Nat} {a : Nat → Addr} {w w' : World} (h : SomeS ks a w) (hb : Below w.heap.size w w') : SomeS ks a w' := fun k hk =>
  (hb.cell (p := ⟨sv k, 0, none⟩) (World.block_lt_of_cell? w _ (h k hk))).trans (h k hk)
theorem Sents.someS {a : Nat → Addr} {w : World} (h : Sents a w) (ks : List Nat) (hk : ∀ k ∈ ks, k < 12) : SomeS ks a w := fun k hm => h.cell k (hk k hm)
/-- v is an error of number c and place t -/
def EV (a : Nat → Addr) (v : Value) (c t : Int) (w : World) : Prop :=
  (v = .nilIface ∧ c = 0 ∧ t = -1) ∨ (∃ k : Nat, k < 12 ∧ v = sval a k ∧ c = (k : Int) + 1 ∧ t = -1) ∨
    ∃ k b o : Nat, k < 12 ∧ v = .iface 134 (.pointer (some ⟨b, o, none⟩)) ∧ c = (k : Int) + 1 ∧ w.cell? ⟨b, o, none⟩ = some (.int .i64 t) ∧ w.cell? ⟨b, o + 1, none⟩ = some (sval a k)
theorem EV.none (a : Nat → Addr) (w : World) : EV a .nilIface 0 (-1) w := .inl ⟨rfl, rfl, rfl⟩
theorem EV.sent (a : Nat → Addr) (w : World) (k : Nat) (hk : k < 12) : EV a (sval a k) ((k : Int) + 1) (-1) w := .inr (.inl ⟨k, hk, rfl, rfl, rfl⟩)
theorem EV.fault {a : Nat → Addr} {w : World} (k : Nat) (hk : k < 12) {b o : Nat} {t : Int} (h0 : w.cell? ⟨b, o, .none⟩ = some (.int .i64 t)) (h1 : w.cell? ⟨b, o + 1, .none⟩ = some (sval a k)) :
    EV a (.iface 134 (.pointer (some ⟨b, o, .none⟩))) ((k : Int) + 1) t w := .inr (.inr ⟨k, b, o, hk, rfl, rfl, h0, h1⟩)
theorem EV.nil {a : Nat → Addr} {v : Value} {c t : Int} {w : World} (h : EV a v c t w) (hc : c = 0) : v = .nilIface ∧ t = -1 := by
  rcases h with ⟨h, _, h2⟩ | ⟨k, _, _, h, _⟩ | ⟨k, b, o, _, _, h, _⟩
  · exact ⟨h, h2⟩
  · omega
  · omega
theorem EV.some {a : Nat → Addr} {v : Value} {c t : Int} {w : World} (h : EV a v c t w) (hc : c ≠ 0) : ∃ T p, v = .iface T p := by
  rcases h with ⟨_, h, _⟩ | ⟨k, _, h, _⟩ | ⟨k, b, o, _, h, _⟩
  · exact absurd h hc
  · exact ⟨_, _, h⟩
  · exact ⟨_, _, h⟩
theorem EV.below {a : Nat → Addr} {v : Value} {c t : Int} {w w' : World} (h : EV a v c t w) (hb : Below w.heap.size w w') : EV a v c t w' := by
  rcases h with h | h | ⟨k, b, o, hk, h1, h2, h3, h4⟩
  · exact .inl h
  · exact .inr (.inl h)
  · exact .inr (.inr ⟨k, b, o, hk, h1, h2, (hb.cell (p := ⟨b, o, .none⟩) (World.block_lt_of_cell? w _ h3)).trans h3, (hb.cell (p := ⟨b, o + 1, .none⟩) (World.block_lt_of_cell? w _ h4)).trans h4⟩)
theorem EV_mk (a : Nat → Addr) (w : World) (k : Nat) (hk : k < 12) (t : Int) (tg : TypeId) : EV a (.iface 134 (.pointer (some ⟨w.heap.size, 0, none⟩))) ((k : Int) + 1) t (w.alloc (.cells #[.int .i64 t, .iface 361 (.pointer (some (a k)))] tg)) :=
  EV.fault k hk (by rw [World.cell?_alloc_at _ _ _ _ rfl]; rfl) (by rw [World.cell?_alloc_at _ _ _ _ rfl]; rfl)
/-- an error that is none or a sentinel: it stands in whatever world -/
def ES (a : Nat → Addr) (v : Value) (c : Int) : Prop := (v = .nilIface ∧ c = 0) ∨ ∃ k : Nat, k < 12 ∧ v = sval a k ∧ c = (k : Int) + 1
theorem ES.none (a : Nat → Addr) : ES a .nilIface 0 := .inl ⟨rfl, rfl⟩
theorem ES.sent (a : Nat → Addr) (k : Nat) (hk : k < 12) : ES a (sval a k) ((k : Int) + 1) := .inr ⟨k, hk, rfl, rfl⟩
theorem ES.ev {a : Nat → Addr} {v : Value} {c : Int} (h : ES a v c) (w : World) : EV a v c (-1) w := by
  rcases h with ⟨rfl, rfl⟩ | ⟨k, hk, rfl, rfl⟩
  · exact EV.none a w
  · exact EV.sent a w k hk
theorem ES.nil {a : Nat → Addr} {v : Value} {c : Int} (h : ES a v c) (hc : c = 0) : v = .nilIface ∧ True := by
  rcases h with ⟨h, _⟩ | ⟨k, _, _, h⟩
  · exact ⟨h, trivial⟩
  · omega
theorem ES.some {a : Nat → Addr} {v : Value} {c : Int} (h : ES a v c) (hc : c ≠ 0) : ∃ T p, v = .iface T p := by
  rcases h with ⟨_, h⟩ | ⟨k, _, h, _⟩
  · exact absurd h hc
  · exact ⟨_, _, h⟩
end Go.Proofs.YtpanoplcamdnkaaGreatDoor
/- strconv.Atoi by two contracts: a number, or an error. Condition: strconv's two error variables hold errors (Perrs). -/
namespace Go.Proofs.YtpanoplcamdnkaaGreatDoor
open Go.RowKit Go.Lib

structure Perrs (w : World) : Prop where
  s : ∃ T q, w.cell? ⟨15, 0, none⟩ = some (.iface T q)
  r : ∃ T q, w.cell? ⟨16, 0, none⟩ = some (.iface T q)
theorem Perrs.below {w w' : World} (h : Perrs w) (hb : Below w.heap.size w w') : Perrs w' where
  s := by obtain ⟨T, q, hs⟩ := h.s; exact ⟨T, q, (hb.cell (p := ⟨15, 0, none⟩) (World.block_lt_of_cell? w _ hs)).trans hs⟩
  r := by obtain ⟨T, q, hs⟩ := h.r; exact ⟨T, q, (hb.cell (p := ⟨16, 0, none⟩) (World.block_lt_of_cell? w _ hs)).trans hs⟩
/-- the number that a text is, if Atoi finds one -/
def atoiO (l : List UInt8) : Option Int := match atoiAll l with
  | .ok v => some v
  | _ => none
end Go.Proofs.YtpanoplcamdnkaaGreatDoor
/- Walks of strconv.ParseUint (base 16), print.Unhex, strconv.Atoi, print.Number, print.Read. Condition: strconv's two error variables hold errors (Perrs), the tables and ErrText lie as named. -/
namespace Go.Proofs.YtpanoplcamdnkaaGreatDoor
open Go.RowKit Go.Lib

end Go.Proofs.YtpanoplcamdnkaaGreatDoor
/- Walks of print.Number, print.Read. Condition: strconv's two error variables hold errors (Perrs), the tables, MaxLen and ErrText lie as named. -/
namespace Go.Proofs.YtpanoplcamdnkaaGreatDoor
open Go.RowKit Go.Lib

/-- the number of a text without needless signs, of so many bytes at most -/
def numOf (l : Bytes) (m : Nat) : Option Nat := match atoiO l with
  | some v => if l.length ≤ m ∧ 0 ≤ v ∧ itoa v = l then some v.toNat else none
  | none => none
def numVal (l : Bytes) (m : Nat) : Int := ((numOf l m).getD 0 : Nat)
/-- an ID's text, read -/
def readId (l : Bytes) : Option (Nat × Nat) := match byteCut 45 l with
  | none => none
  | some (h, d) => match unhexOf h, numOf d 6 with
    | some n, some k => some (n, k)
    | _, _ => none
end Go.Proofs.YtpanoplcamdnkaaGreatDoor
/- Walk of printed (a closed fact). Condition: the tables and MaxLen lie as named (PrW). -/
namespace Go.Proofs.YtpanoplcamdnkaaGreatDoor
open Go.RowKit Go.Lib

structure PrW (w : World) : Prop where
  t : Tabs w
  m : MaxL w
theorem PrW.below {w w' : World} (h : PrW w) (hb : Below w.heap.size w w') : PrW w' := ⟨h.t.below hb, h.m.below hb⟩
end Go.Proofs.YtpanoplcamdnkaaGreatDoor

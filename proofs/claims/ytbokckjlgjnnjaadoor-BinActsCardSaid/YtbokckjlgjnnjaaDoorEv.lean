/- An error value by number and place, told by its form alone: nil, a sentinel, a fault over a sentinel. No conditions. -/
import Derived.Test.YtbokckjlgjnnjaaDoorSents
import Derived.Lib.Hide
namespace Go.Proofs.YtbokckjlgjnnjaaDoor
open Go.RowKit

/-- these sentinels' variables hold what a names -/
def SomeS (ks : List Nat) (a : Nat → Addr) (w : World) : Prop := ∀ k ∈ ks, w.cell? ⟨sv k, 0, none⟩ = some (sval a k)
theorem SomeS.below {ks : List Nat} {a : Nat → Addr} {w w' : World} (h : SomeS ks a w) (hb : Below w.heap.size w w') : SomeS ks a w' := fun k hk =>
  (hb.cell (p := ⟨sv k, 0, none⟩) (World.block_lt_of_cell? w _ (h k hk))).trans (h k hk)
theorem Sents.someS {a : Nat → Addr} {w : World} (h : Sents a w) (ks : List Nat) (hk : ∀ k ∈ ks, k < 12) : SomeS ks a w := fun k hm => h.cell k (hk k hm)
/-- v is an error of number c and place t -/
def EV (a : Nat → Addr) (v : Value) (c t : Int) (w : World) : Prop :=
  (v = .nilIface ∧ c = 0 ∧ t = -1) ∨ (∃ k : Nat, k < 12 ∧ v = sval a k ∧ c = (k : Int) + 1 ∧ t = -1) ∨
    ∃ k b o : Nat, k < 12 ∧ v = .iface 109 (.pointer (some ⟨b, o, none⟩)) ∧ c = (k : Int) + 1 ∧ w.cell? ⟨b, o, none⟩ = some (.int .i64 t) ∧ w.cell? ⟨b, o + 1, none⟩ = some (sval a k)
theorem EV.none (a : Nat → Addr) (w : World) : EV a .nilIface 0 (-1) w := .inl ⟨rfl, rfl, rfl⟩
theorem EV.sent (a : Nat → Addr) (w : World) (k : Nat) (hk : k < 12) : EV a (sval a k) ((k : Int) + 1) (-1) w := .inr (.inl ⟨k, hk, rfl, rfl, rfl⟩)
theorem EV.fault {a : Nat → Addr} {w : World} (k : Nat) (hk : k < 12) {b o : Nat} {t : Int} (h0 : w.cell? ⟨b, o, .none⟩ = some (.int .i64 t)) (h1 : w.cell? ⟨b, o + 1, .none⟩ = some (sval a k)) :
    EV a (.iface 109 (.pointer (some ⟨b, o, .none⟩))) ((k : Int) + 1) t w := .inr (.inr ⟨k, b, o, hk, rfl, rfl, h0, h1⟩)
theorem EV.nil {a : Nat → Addr} {v : Value} {c t : Int} {w : World} (h : EV a v c t w) (hc : c = 0) : v = .nilIface ∧ t = -1 := by
  rcases h with ⟨h, _, h2⟩ | ⟨k, _, _, h, _⟩ | ⟨k, b, o, _, _, h, _⟩
  · exact ⟨h, h2⟩
  · omega
  · omega
theorem EV.some {a : Nat → Addr} {v : Value} {c t : Int} {w : World} (h : EV a v c t w) (hc : c ≠ 0) : ∃ T p, v = .iface T p := by
  rcases h with ⟨_, h, _⟩ | ⟨k, _, h, _⟩ | ⟨k, b, o, _, h, _⟩
  · exact absurd h hc
  · exact ⟨_, _, h⟩
  · exact ⟨_, _, h⟩
theorem EV.below {a : Nat → Addr} {v : Value} {c t : Int} {w w' : World} (h : EV a v c t w) (hb : Below w.heap.size w w') : EV a v c t w' := by
  rcases h with h | h | ⟨k, b, o, hk, h1, h2, h3, h4⟩
  · exact .inl h
  · exact .inr (.inl h)
  · exact .inr (.inr ⟨k, b, o, hk, h1, h2, (hb.cell (p := ⟨b, o, .none⟩) (World.block_lt_of_cell? w _ h3)).trans h3, (hb.cell (p := ⟨b, o + 1, .none⟩) (World.block_lt_of_cell? w _ h4)).trans h4⟩)
theorem EV_mk (a : Nat → Addr) (w : World) (k : Nat) (hk : k < 12) (t : Int) (tg : TypeId) : EV a (.iface 109 (.pointer (some ⟨w.heap.size, 0, none⟩))) ((k : Int) + 1) t (w.alloc (.cells #[.int .i64 t, .iface 211 (.pointer (some (a k)))] tg)) :=
  EV.fault k hk (by rw [World.cell?_alloc_at _ _ _ _ rfl]; rfl) (by rw [World.cell?_alloc_at _ _ _ _ rfl]; rfl)
/-- an error that is none or a sentinel: it stands in whatever world -/
def ES (a : Nat → Addr) (v : Value) (c : Int) : Prop := (v = .nilIface ∧ c = 0) ∨ ∃ k : Nat, k < 12 ∧ v = sval a k ∧ c = (k : Int) + 1
theorem ES.none (a : Nat → Addr) : ES a .nilIface 0 := .inl ⟨rfl, rfl⟩
theorem ES.sent (a : Nat → Addr) (k : Nat) (hk : k < 12) : ES a (sval a k) ((k : Int) + 1) := .inr ⟨k, hk, rfl, rfl⟩
theorem ES.ev {a : Nat → Addr} {v : Value} {c : Int} (h : ES a v c) (w : World) : EV a v c (-1) w := by
  rcases h with ⟨rfl, rfl⟩ | ⟨k, hk, rfl, rfl⟩
  · exact EV.none a w
  · exact EV.sent a w k hk
theorem ES.nil {a : Nat → Addr} {v : Value} {c : Int} (h : ES a v c) (hc : c = 0) : v = .nilIface ∧ True := by
  rcases h with ⟨h, _⟩ | ⟨k, _, _, h⟩
  · exact ⟨h, trivial⟩
  · omega
theorem ES.some {a : Nat → Addr} {v : Value} {c : Int} (h : ES a v c) (hc : c ≠ 0) : ∃ T p, v = .iface T p := by
  rcases h with ⟨_, h⟩ | ⟨k, _, h, _⟩
  · exact absurd h hc
  · exact ⟨_, _, h⟩
end Go.Proofs.YtbokckjlgjnnjaaDoor

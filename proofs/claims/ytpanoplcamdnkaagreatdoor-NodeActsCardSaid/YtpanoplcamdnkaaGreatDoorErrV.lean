/- An error value told by number and place: plain.Code, coded, faulted, errors.New by contracts. Condition: the twelve sentinels and the type handle lie as the text lays them (Sents). -/
import Derived.Test.YtpanoplcamdnkaaGreatDoorCode
import Derived.Test.YtpanoplcamdnkaaGreatDoorPrt2
namespace Go.Proofs.YtpanoplcamdnkaaGreatDoor
open Go.RowKit

/-- the value v is an error of number c and place t -/
def ErrV (a : Nat → Addr) (v : Value) (c t : Int) (w : World) : Prop :=
  (v = .nilIface ∧ c = 0 ∧ t = -1) ∨ (∃ p m, v = .iface 361 (.pointer (some p)) ∧ PErr a p m w ∧ c = codeOf m ∧ t = -1) ∨
    ∃ b o p m, v = .iface 134 (.pointer (some ⟨b, o, none⟩)) ∧ PErr a p m w ∧ c = codeOf m ∧ w.cell? ⟨b, o, none⟩ = some (.int .i64 t) ∧ w.cell? ⟨b, o + 1, none⟩ = some (.iface 361 (.pointer (some p)))
theorem ErrV.none (a : Nat → Addr) (w : World) : ErrV a .nilIface 0 (-1) w := .inl ⟨rfl, rfl, rfl⟩
theorem ErrV.sent {a : Nat → Addr} {w : World} (h : Sents a w) (k : Nat) (hk : k < 12) : ErrV a (sval a k) ((k : Int) + 1) (-1) w := .inr (.inl ⟨_, _, rfl, h.perr hk, rfl, rfl⟩)
theorem ErrV.fault {a : Nat → Addr} {w : World} (h : Sents a w) (k : Nat) (hk : k < 12) {b o : Nat} {t : Int} (h0 : w.cell? ⟨b, o, .none⟩ = some (.int .i64 t)) (h1 : w.cell? ⟨b, o + 1, .none⟩ = some (sval a k)) :
    ErrV a (.iface 134 (.pointer (some ⟨b, o, .none⟩))) ((k : Int) + 1) t w := .inr (.inr ⟨_, _, _, _, rfl, h.perr hk, rfl, h0, h1⟩)
theorem ErrV.below {a : Nat → Addr} {v : Value} {c t : Int} {w w' : World} (h : ErrV a v c t w) (hb : Below w.heap.size w w') : ErrV a v c t w' := by
  rcases h with h | ⟨p, m, h1, h2, h3⟩ | ⟨b, o, p, m, h1, h2, h3, h4, h5⟩
  · exact .inl h
  · exact .inr (.inl ⟨p, m, h1, h2.below hb, h3⟩)
  · exact .inr (.inr ⟨b, o, p, m, h1, h2.below hb, h3, (hb.cell (p := ⟨b, o, .none⟩) (World.block_lt_of_cell? w _ h4)).trans h4, (hb.cell (p := ⟨b, o + 1, .none⟩) (World.block_lt_of_cell? w _ h5)).trans h5⟩)
theorem Code_any (a : Nat → Addr) (v : Value) (c t : Int) (w : World) (h : Sents a w) (he : ErrV a v c t w) :
    Calls Tryz.prog 77 #[v] w fun e w' => e = .returned (.tuple #[.int .i64 c, .int .i64 t]) ∧ Below w.heap.size w w' := by
  rcases he with ⟨rfl, rfl, rfl⟩ | ⟨p, m, rfl, h2, rfl, rfl⟩ | ⟨b, o, p, m, rfl, h2, rfl, h4, h5⟩
  · exact (Code_nil w).mono fun _ _ ⟨h1, h2⟩ => ⟨h1, by rw [← h2]; exact Below.refl _ _⟩
  · exact Code_plain a p m w h h2
  · exact Code_fault a b o t p m w h h2 h4 h5
def codedB (code c t : Int) : Bool := decide (c = code ∧ t = -1)
def faultedB (code at_ c t : Int) : Bool := decide (c = code ∧ (c = 0 ∨ t = at_))
theorem coded2_any (a : Nat → Addr) (v : Value) (code c t : Int) (w : World) (h : Sents a w) (he : ErrV a v c t w) :
    Calls Tryz.prog 39 #[v, .int .i64 code] w fun e w' => e = .returned (.bool (codedB code c t)) ∧ Below w.heap.size w w' := by
  have HS := Lib.hid h
  have HE := Lib.hid he
  clear h he
  by_cases h1 : c = code
  · by_cases h2 : t = -1
    · have q1 : (c == code) = true := by simpa using h1
      have q2 : (t == -1) = true := by simpa using h2
      have HQ : Hid (codedB code c t = true) := Lib.hid (by unfold codedB; simp [h1, h2])
      clear h1 h2
      go_enter Tryz.func39, Tryz.ntmps39
      go_wp2_with (go_at_call 77; refine (Code_any a v c t _ HS.out HE.out).mono ?_; rintro e w1 ⟨rfl, hb⟩)
      go_ret
      exact ⟨by rw [HQ.out]; rfl, hb⟩
    · have q1 : (c == code) = true := by simpa using h1
      have q2 : (t == -1) = false := by simpa using h2
      have HQ : Hid (codedB code c t = false) := Lib.hid (by unfold codedB; simp [h2])
      clear h1 h2
      go_enter Tryz.func39, Tryz.ntmps39
      go_wp2_with (go_at_call 77; refine (Code_any a v c t _ HS.out HE.out).mono ?_; rintro e w1 ⟨rfl, hb⟩)
      go_ret
      exact ⟨by rw [HQ.out]; rfl, hb⟩
  · have q1 : (c == code) = false := by simpa using h1
    have HQ : Hid (codedB code c t = false) := Lib.hid (by unfold codedB; simp [h1])
    clear h1
    go_enter Tryz.func39, Tryz.ntmps39
    go_wp2_with (go_at_call 77; refine (Code_any a v c t _ HS.out HE.out).mono ?_; rintro e w1 ⟨rfl, hb⟩)
    go_ret
    exact ⟨by rw [HQ.out]; rfl, hb⟩
end Go.Proofs.YtpanoplcamdnkaaGreatDoor

/- strconv.Atoi by two contracts: a number, or an error. Condition: strconv's two error variables hold errors (Perrs). -/
import Derived.Test.YtbokckjlgjnnjaaGreatDoorShelf
import Derived.Test.YtbokckjlgjnnjaaGreatDoorPlainA
import Derived.Lib.AtoiErrMem
import Derived.Lib.AtoiTie
import Derived.Below
namespace Go.Proofs.YtbokckjlgjnnjaaGreatDoor
open Go.RowKit Go.Lib

structure Perrs (w : World) : Prop where
  s : ∃ T q, w.cell? ⟨15, 0, none⟩ = some (.iface T q)
  r : ∃ T q, w.cell? ⟨16, 0, none⟩ = some (.iface T q)
theorem Perrs.below {w w' : World} (h : Perrs w) (hb : Below w.heap.size w w') : Perrs w' where
  s := by obtain ⟨T, q, hs⟩ := h.s; exact ⟨T, q, (hb.cell (p := ⟨15, 0, none⟩) (World.block_lt_of_cell? w _ hs)).trans hs⟩
  r := by obtain ⟨T, q, hs⟩ := h.r; exact ⟨T, q, (hb.cell (p := ⟨16, 0, none⟩) (World.block_lt_of_cell? w _ hs)).trans hs⟩
/-- the number that a text is, if Atoi finds one -/
def atoiO (l : List UInt8) : Option Int := match atoiAll l with
  | .ok v => some v
  | _ => none
theorem atoiO_digits (l : List UInt8) (n : Nat) (h : atoiAll l = .ok (n : Int)) : atoiO l = some (n : Int) := by unfold atoiO; rw [h]
theorem atoiO_ok {l : List UInt8} {v : Int} (h : atoiO l = some v) : atoiAll l = .ok v := by
  unfold atoiO at h
  cases hA : atoiAll l with
  | ok x => rw [hA] at h; injection h with h; rw [h]
  | _ => rw [hA] at h; cases h
theorem Atoi_some (s : ByteArray) (hs : s.size ≤ 2 ^ 40) (v : Int) (h : atoiO s.data.toList = some v) (w : World) :
    Calls Tryz.prog 104 #[.string s] w fun e w' => e = .returned (.tuple #[.int .i64 v, .nilIface]) ∧ Below w.heap.size w w' :=
  (Tryz.strconv_Atoi_ok s (by omega) v (atoiO_ok h) w).mono fun e w' ⟨he, hw⟩ => ⟨he, by
    rcases hw with hw | ⟨t, hw⟩
    · rw [hw]; exact Below.refl _ _
    · rw [hw]; exact Lib.bytesWorld_below w _ t⟩
theorem Atoi_none (s : ByteArray) (hs : s.size ≤ 2 ^ 40) (h : atoiO s.data.toList = none) (w : World) (hp : Perrs w) :
    Calls Tryz.prog 104 #[.string s] w fun e w' => ∃ x T q, e = .returned (.tuple #[.int .i64 x, .iface T q]) ∧ Below w.heap.size w w' := by
  obtain ⟨T1, q1, h1⟩ := hp.s
  obtain ⟨T2, q2, h2⟩ := hp.r
  have hcase : atoiAll s.data.toList = NumEnd.ofOption (none : Option Int) ∨ atoiAll s.data.toList = .range := by
    unfold atoiO at h
    cases hA : atoiAll s.data.toList with
    | ok v => rw [hA] at h; cases h
    | range => exact .inr rfl
    | _ => exact .inl rfl
  rcases hcase with hA | hA
  · exact (Any.strconv_Atoi_syntax Tryz.laysC172 s (by omega) hA (.iface T1 q1) w h1 (.inr ⟨_, _, rfl⟩)).mono fun e w' ⟨N, he, _, _, hb⟩ => ⟨_, _, _, he, hb⟩
  · exact (Tryz.strconv_Atoi_range s (by omega) hA (.iface T2 q2) w h2 (.inr ⟨_, _, rfl⟩)).mono fun e w' ⟨N, he, _, _, hb⟩ => ⟨_, _, _, he, hb⟩
end Go.Proofs.YtbokckjlgjnnjaaGreatDoor

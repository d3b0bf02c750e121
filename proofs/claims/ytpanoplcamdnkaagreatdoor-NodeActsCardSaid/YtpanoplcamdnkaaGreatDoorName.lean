/- Walk of recipe.Name. No conditions but bounds. -/
import Derived.Shelf.Strings.SlTrimAscii
import Derived.Test.YtpanoplcamdnkaaGreatDoorShelf
import Derived.Test.YtpanoplcamdnkaaGreatDoorPlainA
import Derived.Test.YtpanoplcamdnkaaGreatDoorChecked
import Derived.WalkKit
import Derived.Handy
import Derived.Lib.Hide
namespace Go.Proofs.YtpanoplcamdnkaaGreatDoor
open Go.RowKit Go.Lib

/-- the bytes of a name -/
def nameSet : List UInt8 := [97, 98, 99, 100, 101, 102, 103, 104, 105, 106, 107, 108, 109, 110, 111, 112, 113, 114, 115, 116, 117, 118, 119, 120, 121, 122, 48, 49, 50, 51, 52, 53, 54, 55, 56, 57, 46, 45]
def isName (l : List UInt8) : Bool := decide (1 ≤ l.length) && decide (l.length ≤ 12) && l.all (nameSet.contains ·)
theorem dropWhile_two {p : UInt8 → Bool} (l : List UInt8) : l.dropWhile p = [] ∨ ∃ x r, l.dropWhile p = x :: r ∧ p x = false := by
  induction l with
  | nil => exact .inl rfl
  | cons c l ih =>
    cases hc : p c with
    | true => simpa [List.dropWhile, hc] using ih
    | false => exact .inr ⟨c, l, by simp [List.dropWhile, hc], hc⟩
theorem dropWhile_nil {p : UInt8 → Bool} (l : List UInt8) : l.dropWhile p = [] ↔ l.all p = true := by
  induction l with
  | nil => simp
  | cons c l ih =>
    cases hc : p c with
    | true => simpa [List.dropWhile, hc] using ih
    | false => simp [List.dropWhile, hc]
theorem trimS_nil (l cs : List UInt8) : trimS l cs = [] ↔ l.all (cs.contains ·) = true := by
  unfold trimS trimLeftS trimRightS
  rw [dropWhile_nil]
  rcases dropWhile_two (p := (cs.contains ·)) l.reverse with h | ⟨x, r, h, hx⟩
  · rw [h]
    have := (dropWhile_nil _).1 h
    rw [List.all_reverse] at this
    simpa using this
  · rw [h]
    constructor
    · intro h1
      rw [List.all_reverse, List.all_cons, hx] at h1
      simp at h1
    · intro h1
      rw [← List.all_reverse] at h1
      have := (dropWhile_nil _).2 h1
      rw [h] at this
      cases this
theorem asciiRow : (Tryz.prog.info? 264).map (fun i => (i.zero, i.size)) = some (some (.agg (Array.replicate 256 (.bool false))), 256) := by kernel_rfl
theorem STrim_name (t : ByteArray) (ht : t.size ≤ 9223372036854775807) (w : World) :
    Calls Tryz.prog 159 #[.string t, .string ⟨#[97, 98, 99, 100, 101, 102, 103, 104, 105, 106, 107, 108, 109, 110, 111, 112, 113, 114, 115, 116, 117, 118, 119, 120, 121, 122, 48, 49, 50, 51, 52, 53, 54, 55, 56, 57, 46, 45]⟩] w
      fun e w' => e = .returned (.string (bs (trimS t.data.toList nameSet))) ∧ Below w.heap.size w w' :=
  Any.strings_Trim_laid Tryz.lays160 asciiRow t _ w ht (by decide) (ascii_of_all (by decide))
theorem bs_isEmpty (l : List UInt8) : (bs l).toList.isEmpty = decide (l = []) := by
  rw [ByteArray.toList_eq, bs_toList]
  cases l <;> rfl
set_option maxRecDepth 100000 in
theorem RcName_any (t : ByteArray) (ht : t.size ≤ 9223372036854775807) (w : World) :
    Calls Tryz.prog 106 #[.string t] w fun e w' => e = .returned (.bool (isName t.data.toList)) ∧ Below w.heap.size w w' := by
  have hz := size_toList t
  by_cases h0 : t.data.toList = []
  · have he : t.toList.isEmpty = true := by rw [ByteArray.toList_eq, h0]; rfl
    have HJ : Hid (isName t.data.toList = false) := Lib.hid (by rw [h0]; rfl)
    clear hz h0
    go_enter Tryz.func106, Tryz.ntmps106
    go_wp2
    go_ret
    exact ⟨by rw [HJ.out]; rfl, Below.refl _ _⟩
  · have he : t.toList.isEmpty = false := by
      rw [ByteArray.toList_eq]
      cases h : t.data.toList with
      | nil => exact absurd h h0
      | cons => rfl
    have hl1 : 1 ≤ t.data.toList.length := List.length_pos_iff.2 h0
    by_cases h12 : t.size ≤ 12
    · have h12i : (t.size : Int) ≤ 12 := by omega
      have HJ : Hid (isName t.data.toList = decide (trimS t.data.toList nameSet = [])) := Lib.hid (by
        unfold isName
        rw [decide_eq_true hl1, decide_eq_true (show t.data.toList.length ≤ 12 by omega)]
        cases hq : t.data.toList.all (nameSet.contains ·) with
        | true => rw [decide_eq_true ((trimS_nil _ _).2 hq)]; rfl
        | false => rw [decide_eq_false (fun h => by rw [(trimS_nil _ _).1 h] at hq; cases hq)]; rfl)
      have HE := Lib.hid (bs_isEmpty (trimS t.data.toList nameSet))
      clear hz h0 hl1
      go_enter Tryz.func106, Tryz.ntmps106
      go_wp2_with fail
      refine (STrim_name t ht w).mono ?_
      rintro e w1 ⟨rfl, hb⟩
      go_wp2
      go_ret
      exact ⟨by rw [HJ.out, ← HE.out]; rfl, hb⟩
    · have h12i : ¬ (t.size : Int) ≤ 12 := by omega
      have HJ : Hid (isName t.data.toList = false) := Lib.hid (by unfold isName; rw [decide_eq_false (show ¬ t.data.toList.length ≤ 12 by omega), Bool.and_false, Bool.false_and])
      clear hz h0 hl1
      go_enter Tryz.func106, Tryz.ntmps106
      go_wp2
      go_ret
      exact ⟨by rw [HJ.out]; rfl, Below.refl _ _⟩
end Go.Proofs.YtpanoplcamdnkaaGreatDoor

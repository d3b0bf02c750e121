/- once.Table: walk of Copy; the table beside the reference's. Conditions as named. -/
import Derived.Test.YtpacalklcdlhoaaDoorOnf
import Derived.Test.YtpacalklcdlhoaaDoorRefNt
import Derived.Test.YtpacalklcdlhoaaDoorClo
import Derived.Shelf.SlMaps.Clone
namespace Go.Proofs.YtpacalklcdlhoaaDoor
open Go.RowKit Go.Lib Go.Maps

theorem OCopy_any (b mb cnt : Nat) (D : DataW Unit) (w : World) (hT : OTab b mb D cnt w) :
    Calls Tryd.prog 44 #[.pointer (some ⟨b, 0, none⟩)] w fun e w' => ∃ b' mb', e = .returned (.pointer (some ⟨b', 0, none⟩)) ∧ OTab b' mb' D cnt w' ∧ Below w.heap.size w w' := by
  have c0 := hT.cell
  have HT := Lib.hid hT
  clear hT
  go_enter Tryd.func44, Tryd.ntmps44
  go_wp2_with fail
  refine (AnyW.maps_Clone_owns Tryd.clone73 9 ansElem mb cnt D w HT.out.map).mono ?_
  rintro e w1 ⟨rfl, hm, _, hb⟩
  have hlt := hm.lt
  go_wp2
  go_ret
  exact ⟨_, w.heap.size, rfl, ⟨heap_alloc_new w1 _, hm.alloc _, by omega⟩, hb.alloc hb.size _⟩
/-! ### the two tables -/
theorem dataOf_ans (L : Tb) (t : Bytes) : (dataOf L).atKey (.string t) (ansD 0 []) = ansD (anL L t) ((getL L t).getD (0, [])).2 := atKey_data L t
theorem noteC_eq (L : Tb) (t : Bytes) (n : Int) : noteC L t n = if noteNo (dataOf L) t n (anL L t) = 0 then 0 else (noteNo (dataOf L) t n (anL L t) : Int) + 1 := by
  unfold noteC noteNo
  rw [has_data, size_data]
  cases hN : isName t with
  | false => rfl
  | true =>
    simp only [Bool.true_eq_false, if_false]
    by_cases hw : n = wrap64 (anL L t + 1)
    · rw [if_neg (not_not_intro hw), if_neg (not_not_intro hw)]
      by_cases hz : (getL L t).isSome = false ∧ 20 ≤ L.length
      · rw [if_pos hz, if_pos hz]; rfl
      · rw [if_neg hz, if_neg hz]; rfl
    · rw [if_pos hw, if_pos hw]; rfl
theorem noteC_zero {L : Tb} {t : Bytes} {n : Int} : noteC L t n = 0 ↔ noteNo (dataOf L) t n (anL L t) = 0 := by
  rw [noteC_eq]
  constructor
  · intro h
    split at h
    · assumption
    · omega
  · intro h
    rw [if_pos h]
theorem noteD_eq {L : Tb} (hs : Srt L) (t : Bytes) (n : Int) (x : Bytes) : noteD (dataOf L) t n (anL L t) x = dataOf (noteLs L t n x) := by
  unfold noteD noteLs
  by_cases h : noteNo (dataOf L) t n (anL L t) = 0
  · rw [if_pos h, if_pos (noteC_zero.2 h)]
    exact put_data L hs t n x
  · rw [if_neg h, if_neg (fun e => h (noteC_zero.1 e))]
theorem srt_note {L : Tb} (hs : Srt L) (t : Bytes) (n : Int) (x : Bytes) : Srt (noteLs L t n x) := by
  unfold noteLs
  split
  · exact srt_putL hs t n x
  · exact hs
theorem noteNo_lt (D : DataW Unit) (t : Bytes) (n an : Int) : noteNo D t n an < 12 := by
  unfold noteNo
  split
  · decide
  · split
    · decide
    · split <;> decide
theorem errV_note {a : Nat → Addr} {w : World} (h : Sents a w) (L : Tb) (t : Bytes) (n : Int) : ErrV a (errK a (noteNo (dataOf L) t n (anL L t))) (noteC L t n) (-1) w := by
  rw [noteC_eq]
  unfold errK
  by_cases h0 : noteNo (dataOf L) t n (anL L t) = 0
  · rw [if_pos h0, if_pos h0]; exact ErrV.none a w
  · rw [if_neg h0, if_neg h0]; exact ErrV.sent h _ (noteNo_lt _ _ _ _)
/-- the two answers of asking, one case for both -/
theorem ask_both (a : Nat → Addr) (L : Tb) (t : Bytes) (n : Int) : ∃ (s : Bytes) (is : Bool) (k : Nat), k < 12 ∧ askV a (dataOf L) t n (anL L t) ((getL L t).getD (0, [])).2 = .tuple #[.string (bs s), .bool is, errK a k] ∧
    askR L t n = .tuple #[.string (bs s), .bool is, .int .i64 (if k = 0 then 0 else (k : Int) + 1)] := by
  have hb : (.string ⟨#[]⟩ : Value) = .string (bs []) := rfl
  unfold askV askR
  rw [has_data]
  cases hN : isName t with
  | false => exact ⟨[], false, 3, by decide, by rw [if_pos rfl]; rfl, by rw [if_pos rfl]; rfl⟩
  | true =>
    simp only [Bool.true_eq_false, if_false]
    by_cases h1 : (getL L t).isSome = true ∧ n = anL L t
    · refine ⟨_, true, 0, by decide, by rw [if_pos h1]; rfl, ?_⟩
      have h1' : (getL L t).isSome = true ∧ n = ((getL L t).getD (0, [])).1 := h1
      rw [if_pos h1']; rfl
    · have h1' : ¬ ((getL L t).isSome = true ∧ n = ((getL L t).getD (0, [])).1) := h1
      rw [if_neg h1, if_neg h1']
      by_cases hw : n ≠ wrap64 (anL L t + 1)
      · have hw' : n ≠ wrap64 (((getL L t).getD (0, [])).1 + 1) := hw
        exact ⟨[], false, 7, by decide, by rw [if_pos hw]; rfl, by rw [if_pos hw']; rfl⟩
      · have hw' : ¬ n ≠ wrap64 (((getL L t).getD (0, [])).1 + 1) := hw
        exact ⟨[], false, 0, by decide, by rw [if_neg hw]; rfl, by rw [if_neg hw']; rfl⟩
end Go.Proofs.YtpacalklcdlhoaaDoor

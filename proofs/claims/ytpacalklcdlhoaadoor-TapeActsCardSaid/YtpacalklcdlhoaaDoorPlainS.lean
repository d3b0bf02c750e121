/- Plain words of package tape: a disk's state, writing, appending, recovering; what is recovered is what was appended with no error. No program in sight. No conditions. -/
import Derived.Test.YtpacalklcdlhoaaDoorPlainT
namespace Go.Proofs.YtpacalklcdlhoaaDoor
open Go.Lib

/-- a disk's state -/
structure DSt where
  b : TBytes
  off : Bool
  cut : Int
/-- writing: the state behind it, and whether all of it is written -/
def wrSt (s : DSt) (x : TBytes) : DSt :=
  if s.off then s
  else if 0 ≤ s.cut ∧ s.cut < x.length then ⟨s.b ++ x.take s.cut.toNat, true, s.cut⟩
  else ⟨s.b ++ x, false, if 0 ≤ s.cut then s.cut - x.length else s.cut⟩
def wrOk (s : DSt) (x : TBytes) : Bool := !s.off && !(decide (0 ≤ s.cut ∧ s.cut < x.length))
theorem wrSt_off (b : TBytes) (cut : Int) (x : TBytes) : wrSt ⟨b, true, cut⟩ x = ⟨b, true, cut⟩ := rfl
theorem wrSt_cut (b : TBytes) (cut : Int) (x : TBytes) (h0 : 0 ≤ cut) (h1 : cut < x.length) : wrSt ⟨b, false, cut⟩ x = ⟨b ++ x.take cut.toNat, true, cut⟩ := by
  unfold wrSt; rw [if_neg (by simp), if_pos ⟨h0, h1⟩]
theorem wrSt_fits (b : TBytes) (cut : Int) (x : TBytes) (h0 : 0 ≤ cut) (h1 : ¬ cut < x.length) : wrSt ⟨b, false, cut⟩ x = ⟨b ++ x, false, cut - x.length⟩ := by
  unfold wrSt; rw [if_neg (by simp), if_neg (fun h => h1 h.2)]; simp only [if_pos h0]
theorem wrSt_free (b : TBytes) (cut : Int) (x : TBytes) (h0 : ¬ 0 ≤ cut) : wrSt ⟨b, false, cut⟩ x = ⟨b ++ x, false, cut⟩ := by
  unfold wrSt; rw [if_neg (by simp), if_neg (fun h => h0 h.1)]; simp only [if_neg h0]
theorem wrOk_off (b : TBytes) (cut : Int) (x : TBytes) : wrOk ⟨b, true, cut⟩ x = false := rfl
theorem wrOk_cut (b : TBytes) (cut : Int) (x : TBytes) (h0 : 0 ≤ cut) (h1 : cut < x.length) : wrOk ⟨b, false, cut⟩ x = false := by unfold wrOk; rw [decide_eq_true ⟨h0, h1⟩]; rfl
theorem wrOk_not (b : TBytes) (cut : Int) (x : TBytes) (h : ¬ (0 ≤ cut ∧ cut < x.length)) : wrOk ⟨b, false, cut⟩ x = true := by unfold wrOk; rw [decide_eq_false h]; rfl
/-- appending: 0 all is well, else the error's place among the sentinels -/
def apNo (s : DSt) (x : TBytes) : Nat :=
  if 40000 < x.length then 1 else if 1048576 < (recOf x).length + s.b.length then 6 else if wrOk s (recOf x) then 0 else 11
def apSt (s : DSt) (x : TBytes) : DSt :=
  if 40000 < x.length then s else if 1048576 < (recOf x).length + s.b.length then s else wrSt s (recOf x)
/-- recovering -/
def rcSt (s : DSt) : DSt := ⟨recsOf (readAll s.b), false, -1⟩
/-- the texts D are those that were appended with no error -/
def Kept (s : DSt) (D : List TBytes) : Prop := ∃ t, s.b = recsOf D ++ t ∧ oneOf t = none ∧ (s.off = false → t = []) ∧ ∀ x ∈ D, x.length ≤ 40000
theorem Kept.read {s : DSt} {D : List TBytes} (h : Kept s D) : readAll s.b = D := by
  obtain ⟨t, h1, h2, _, h4⟩ := h
  rw [h1]; exact readAll_recs D t h4 h2
theorem Kept.recover {s : DSt} {D : List TBytes} (h : Kept s D) : rcSt s = ⟨recsOf D, false, -1⟩ := by unfold rcSt; rw [h.read]
theorem Kept.start (c : Int) : Kept ⟨[], false, c⟩ [] := ⟨[], rfl, oneOf_nil, fun _ => rfl, fun x h => by cases h⟩
theorem kept_of {D : List TBytes} (h : ∀ x ∈ D, x.length ≤ 40000) (c : Int) : Kept ⟨recsOf D, false, c⟩ D := ⟨[], by simp, oneOf_nil, fun _ => rfl, h⟩
theorem Kept.append {s : DSt} {D : List TBytes} (h : Kept s D) (x : TBytes) (hx : x.length ≤ 40000) : Kept (apSt s x) (if apNo s x = 0 then D ++ [x] else D) := by
  unfold apSt apNo
  have hA : ¬ 40000 < x.length := by omega
  rw [if_neg hA, if_neg hA]
  by_cases h2 : 1048576 < (recOf x).length + s.b.length
  · rw [if_pos h2, if_pos h2, if_neg (by decide)]; exact h
  · rw [if_neg h2, if_neg h2]
    obtain ⟨b, off, cut⟩ := s
    cases off with
    | true => rw [wrOk_off, wrSt_off]; simpa using h
    | false =>
      obtain ⟨t, h1, h2, h3, h4⟩ := h
      obtain rfl := h3 rfl
      simp only [List.append_nil] at h1
      by_cases hc : 0 ≤ cut ∧ cut < (recOf x).length
      · rw [wrSt_cut b cut _ hc.1 hc.2, wrOk_cut b cut _ hc.1 hc.2]
        rw [if_neg (by decide)]
        refine ⟨(recOf x).take cut.toNat, by rw [h1], ?_, fun e => absurd e (by simp), h4⟩
        refine oneOf_torn x _ ((recOf x).drop cut.toNat) hx (List.take_append_drop _ _).symm fun e => ?_
        have := congrArg List.length e
        rw [List.length_drop] at this; simp at this; omega
      · have hs : (wrSt ⟨b, false, cut⟩ (recOf x)).b = b ++ recOf x ∧ (wrSt ⟨b, false, cut⟩ (recOf x)).off = false := by
          unfold wrSt; rw [if_neg (by simp), if_neg hc]; exact ⟨rfl, rfl⟩
        rw [wrOk_not b cut _ hc, if_pos rfl, if_pos rfl]
        refine ⟨[], ?_, oneOf_nil, fun _ => rfl, fun y hy => ?_⟩
        · rw [hs.1, h1, recsOf_append]; simp [recsOf]
        · rcases List.mem_append.1 hy with hy | hy
          · exact h4 y hy
          · obtain rfl : y = x := by simpa using hy
            exact hx
theorem recOf_length (x : TBytes) (h : x.length ≤ 40000) : (recOf x).length ≤ x.length + 12 := by
  unfold recOf
  have := nDigits_le_of x.length 8 (by omega)
  rw [List.length_append, decDigits_length]
  simp only [List.length_cons, List.length_append, List.length_nil]
  omega
theorem apSt_length (s : DSt) (x : TBytes) (h : x.length ≤ 40000) : (apSt s x).b.length ≤ s.b.length + (x.length + 12) := by
  have hr := recOf_length x h
  unfold apSt
  split
  · omega
  · split
    · omega
    · unfold wrSt
      split
      · omega
      · split
        · simp only [List.length_append, List.length_take]; omega
        · simp only [List.length_append]; omega
theorem apSt_cut (s : DSt) (x : TBytes) (h1 : -1 ≤ s.cut) (h2 : s.cut ≤ 9223372036854775807) : -1 ≤ (apSt s x).cut ∧ (apSt s x).cut ≤ 9223372036854775807 := by
  unfold apSt
  split
  · exact ⟨h1, h2⟩
  · split
    · exact ⟨h1, h2⟩
    · unfold wrSt
      split
      · exact ⟨h1, h2⟩
      · split
        · exact ⟨h1, h2⟩
        · next h => 
          simp only
          split
          · have : ¬ s.cut < ((recOf x).length : Int) := fun e => h ⟨by assumption, e⟩
            omega
          · exact ⟨h1, h2⟩
/-- what is small and fits is appended to a disk whose power stays -/
theorem apNo_on (b x : TBytes) (h1 : x.length ≤ 40000) (h2 : (recOf x).length + b.length ≤ 1048576) : apNo ⟨b, false, -1⟩ x = 0 := by
  unfold apNo
  rw [if_neg (by omega), if_neg (by simp only; omega), wrOk_not b (-1) _ (by omega), if_pos rfl]
theorem apSt_on (b x : TBytes) (h1 : x.length ≤ 40000) (h2 : (recOf x).length + b.length ≤ 1048576) : apSt ⟨b, false, -1⟩ x = ⟨b ++ recOf x, false, -1⟩ := by
  unfold apSt
  rw [if_neg (by omega), if_neg (by simp only; omega), wrSt_free b (-1) _ (by omega)]
theorem readAll_snoc {D : List TBytes} (h : ∀ x ∈ D, x.length ≤ 40000) (x : TBytes) (hx : x.length ≤ 40000) : readAll (recsOf D ++ recOf x) = D ++ [x] := by
  have e : recsOf D ++ recOf x = recsOf (D ++ [x]) ++ [] := by rw [recsOf_append]; simp [recsOf]
  rw [e]
  refine readAll_recs _ _ (fun y hy => ?_) oneOf_nil
  rcases List.mem_append.1 hy with hy | hy
  · exact h y hy
  · obtain rfl : y = x := by simpa using hy
    exact hx
end Go.Proofs.YtpacalklcdlhoaaDoor

/- Plain words of package tape: a record, reading one, reading all. No program in sight. No conditions. -/
import Derived.Test.YtpacalklcdlhoaaDoorPlainN
namespace Go.Proofs.YtpacalklcdlhoaaDoor
open Go.Lib

abbrev TBytes := List UInt8
def recOf (s : TBytes) : TBytes := decDigits s.length ++ 58 :: (s ++ [10, 46])
/-- what stands ahead of the first colon, and what behind -/
def colonCut : TBytes → Option (TBytes × TBytes)
  | [] => none
  | c :: l => if c = 58 then some ([], l) else (colonCut l).map fun p => (c :: p.1, p.2)
/-- one record in front -/
def oneOf (b : TBytes) : Option TBytes :=
  match colonCut b with
  | none => none
  | some (d, rest) =>
    match atoiAll d with
    | .ok n => if d.length ≤ 9 ∧ 0 ≤ n ∧ itoa n = d ∧ n ≤ 40000 ∧ n.toNat + 2 ≤ rest.length ∧ (rest.drop n.toNat).take 2 = [10, 46] then some (rest.take n.toNat) else none
    | _ => none
theorem colonCut_of (d r : TBytes) (h : (58 : UInt8) ∉ d) : colonCut (d ++ 58 :: r) = some (d, r) := by
  induction d with
  | nil => rfl
  | cons c d ih =>
    have hc : c ≠ 58 := fun e => h (by simp [e])
    have hd : (58 : UInt8) ∉ d := fun e => h (List.mem_cons_of_mem _ e)
    simp [colonCut, hc, ih hd]
theorem colonCut_some (b d r : TBytes) (h : colonCut b = some (d, r)) : b = d ++ 58 :: r ∧ (58 : UInt8) ∉ d := by
  induction b generalizing d with
  | nil => simp [colonCut] at h
  | cons c b ih =>
    simp only [colonCut] at h
    split at h
    · next hc =>
      simp only [Option.some.injEq, Prod.mk.injEq] at h
      obtain ⟨rfl, rfl⟩ := h
      simp [hc]
    · next hc =>
      cases hb : colonCut b with
      | none => simp [hb] at h
      | some p =>
        obtain ⟨d', r'⟩ := p
        simp only [hb, Option.map_some, Option.some.injEq, Prod.mk.injEq] at h
        obtain ⟨rfl, rfl⟩ := h
        obtain ⟨h1, h2⟩ := ih d' hb
        refine ⟨by rw [h1]; rfl, fun e => ?_⟩
        rcases List.mem_cons.1 e with e | e
        · exact hc e.symm
        · exact h2 e
theorem colon_digits (u : Nat) : (58 : UInt8) ∉ decDigits u := fun e => by
  have := decDigits_digit u 58 e
  simp at this
theorem oneOf_rec (s t : TBytes) (h : s.length ≤ 40000) : oneOf (recOf s ++ t) = some s := by
  unfold oneOf recOf
  rw [List.append_assoc, List.cons_append, colonCut_of _ _ (colon_digits _)]
  simp only [atoiAll_decDigits s.length (by omega)]
  have hl : (decDigits s.length).length ≤ 9 := by rw [decDigits_length]; exact nDigits_le_of _ 8 (by omega)
  rw [if_pos]
  · rw [Int.toNat_natCast]; simp
  · refine ⟨hl, by omega, by rw [itoa_nat], by omega, ?_, ?_⟩
    · simp
    · rw [Int.toNat_natCast, List.append_assoc, List.drop_left]; rfl
theorem oneOf_some (b s : TBytes) (h : oneOf b = some s) : s.length ≤ 40000 ∧ ∃ t, b = recOf s ++ t := by
  unfold oneOf at h
  split at h
  · cases h
  · next d r hc =>
    obtain ⟨rfl, _⟩ := colonCut_some _ _ _ hc
    split at h
    · next n hn =>
      split at h
      · next hcond =>
        obtain ⟨h1, h2, h3, h4, h5, h6⟩ := hcond
        injection h with h
        obtain ⟨k, rfl⟩ : ∃ k : Nat, n = k := ⟨n.toNat, by omega⟩
        rw [Int.toNat_natCast] at h h5 h6
        have hs : s.length = k := by rw [← h, List.length_take]; omega
        refine ⟨by omega, r.drop (k + 2), ?_⟩
        unfold recOf
        rw [hs, ← itoa_nat, h3, List.append_assoc, List.cons_append, ← h]
        congr 2
        rw [← h6, List.append_assoc]
        have e1 : (r.drop k).drop 2 = r.drop (k + 2) := by rw [List.drop_drop]
        rw [← e1, List.take_append_drop, List.take_append_drop]
      · cases h
    · cases h
/-- a torn record is none -/
theorem recOf_ne (s : TBytes) : recOf s ≠ [] := by unfold recOf; simp
theorem oneOf_torn (s b u : TBytes) (hs : s.length ≤ 40000) (h : recOf s = b ++ u) (hu : u ≠ []) : oneOf b = none := by
  cases hb : oneOf b with
  | none => rfl
  | some x =>
    obtain ⟨hx, t, rfl⟩ := oneOf_some b x hb
    have h1 := oneOf_rec s [] hs
    rw [h, List.append_nil, List.append_assoc, oneOf_rec x _ hx] at h1
    injection h1 with h1
    subst h1
    have := congrArg List.length h
    rw [List.length_append, List.length_append] at this
    have hz : u.length ≠ 0 := fun e => hu (List.length_eq_zero_iff.1 e)
    omega
def recsOf (l : List TBytes) : TBytes := (l.map recOf).flatten
theorem recsOf_append (a b : List TBytes) : recsOf (a ++ b) = recsOf a ++ recsOf b := by unfold recsOf; simp
theorem recOf_length_pos (s : TBytes) : 0 < (recOf s).length := by unfold recOf; simp; omega
/-- reading all: the records ahead of what is none -/
def readOf : Nat → TBytes → List TBytes
  | 0, _ => []
  | f + 1, b => match oneOf b with
    | none => []
    | some s => s :: readOf f (b.drop (recOf s).length)
def readAll (b : TBytes) : List TBytes := readOf b.length b
theorem readOf_recs (l : List TBytes) (t : TBytes) (hl : ∀ s ∈ l, s.length ≤ 40000) (ht : oneOf t = none) : ∀ f, (recsOf l).length ≤ f → readOf f (recsOf l ++ t) = l := by
  induction l with
  | nil =>
    intro f _
    cases f with
    | zero => rfl
    | succ f => simp only [recsOf, List.map_nil, List.flatten_nil, List.nil_append, readOf, ht]
  | cons s l ih =>
    intro f hf
    have e : recsOf (s :: l) = recOf s ++ recsOf l := rfl
    rw [e, List.length_append] at hf
    have := recOf_length_pos s
    cases f with
    | zero => omega
    | succ f =>
      rw [e, List.append_assoc]
      simp only [readOf]
      rw [oneOf_rec s _ (hl s List.mem_cons_self)]
      show s :: readOf f (List.drop (recOf s).length (recOf s ++ (recsOf l ++ t))) = _
      rw [List.drop_left, ih (fun x hx => hl x (List.mem_cons_of_mem _ hx)) f (by omega)]
theorem readAll_recs (l : List TBytes) (t : TBytes) (hl : ∀ s ∈ l, s.length ≤ 40000) (ht : oneOf t = none) : readAll (recsOf l ++ t) = l := readOf_recs l t hl ht _ (by simp)
theorem readOf_small (f : Nat) (b : TBytes) : ∀ s ∈ readOf f b, s.length ≤ 40000 := by
  induction f generalizing b with
  | zero => intro s hs; cases hs
  | succ f ih =>
    intro s hs
    simp only [readOf] at hs
    split at hs
    · cases hs
    · next x hx =>
      rcases List.mem_cons.1 hs with rfl | hs
      · exact (oneOf_some b _ hx).1
      · exact ih _ s hs
/-- what was read stands in front, and behind it is no record -/
theorem readOf_front (f : Nat) (b : TBytes) (hf : b.length ≤ f) : ∃ t, b = recsOf (readOf f b) ++ t ∧ oneOf t = none := by
  induction f generalizing b with
  | zero =>
    have : b = [] := List.length_eq_zero_iff.1 (by omega)
    subst this
    exact ⟨[], rfl, rfl⟩
  | succ f ih =>
    simp only [readOf]
    cases hb : oneOf b with
    | none => exact ⟨b, rfl, hb⟩
    | some s =>
      obtain ⟨_, t, rfl⟩ := oneOf_some b s hb
      have := recOf_length_pos s
      simp only [List.drop_left]
      obtain ⟨u, h1, h2⟩ := ih t (by simp at hf; omega)
      refine ⟨u, ?_, h2⟩
      rw [show recsOf (s :: readOf f t) = recOf s ++ recsOf (readOf f t) from rfl, List.append_assoc, ← h1]
theorem oneOf_nil : oneOf [] = none := rfl
end Go.Proofs.YtpacalklcdlhoaaDoor

/- Plain words of package owner: the best of a list, joining and leaving. No program in sight. No conditions. -/
import Derived.WalkKit
namespace Go.Proofs.YtpacalklcdlhoaaGreatDoor

/-- one more candidate -/
def bestStep (f : Int → Nat) (b n : Int) : Int := if f b < f n then n else b
def bestOf (f : Int → Nat) (l : List Int) : Int := l.foldl (bestStep f) (l.headD 0)
/-- the best: none has more, and none of as much is ahead in number -/
def IsBest (f : Int → Nat) (l : List Int) (b : Int) : Prop := b ∈ l ∧ ∀ m ∈ l, f m < f b ∨ (f m = f b ∧ b ≤ m)
theorem IsBest.unique {f : Int → Nat} {l : List Int} {a b : Int} (h1 : IsBest f l a) (h2 : IsBest f l b) : a = b := by
  rcases h1.2 b h2.1 with h | ⟨h, h'⟩ <;> rcases h2.2 a h1.1 with k | ⟨k, k'⟩ <;> omega
theorem IsBest.sub {f : Int → Nat} {l x : List Int} {b : Int} (h : IsBest f x b) (hs : ∀ m ∈ l, m ∈ x) (hb : b ∈ l) : IsBest f l b := ⟨hb, fun m hm => h.2 m (hs m hm)⟩
/-- rising numbers -/
def Rising : List Int → Prop
  | [] => True
  | a :: l => (∀ m ∈ l, a < m) ∧ Rising l
theorem foldl_best (f : Int → Nat) : ∀ (l p : List Int) (b : Int), IsBest f p b → (∀ a ∈ p, ∀ m ∈ l, a < m) → Rising l → IsBest f (p ++ l) (l.foldl (bestStep f) b)
  | [], p, b, h, _, _ => by simpa using h
  | n :: l, p, b, h, hp, hl => by
    have hn : ∀ a ∈ p, a < n := fun a ha => hp a ha n List.mem_cons_self
    have hb : IsBest f (p ++ [n]) (bestStep f b n) := by
      unfold bestStep
      split
      · next hlt =>
        refine ⟨by simp, fun m hm => ?_⟩
        rcases List.mem_append.1 hm with hm | hm
        · rcases h.2 m hm with h1 | ⟨h1, _⟩ <;> left <;> omega
        · obtain rfl : m = n := by simpa using hm
          right; exact ⟨rfl, Int.le_refl _⟩
      · next hlt =>
        refine ⟨by simp [h.1], fun m hm => ?_⟩
        rcases List.mem_append.1 hm with hm | hm
        · exact h.2 m hm
        · obtain rfl : m = n := by simpa using hm
          rcases Nat.lt_or_ge (f m) (f b) with h1 | h1
          · exact .inl h1
          · exact .inr ⟨by omega, by have := hn b h.1; omega⟩
    have := foldl_best f l (p ++ [n]) (bestStep f b n) hb (fun a ha m hm => by
      rcases List.mem_append.1 ha with ha | ha
      · exact hp a ha m (List.mem_cons_of_mem _ hm)
      · obtain rfl : a = n := by simpa using ha
        exact hl.1 m hm) hl.2
    simpa using this
theorem bestOf_is (f : Int → Nat) (l : List Int) (hne : l ≠ []) (h : Rising l) : IsBest f l (bestOf f l) := by
  cases l with
  | nil => exact absurd rfl hne
  | cons a l =>
    unfold bestOf
    have h1 : bestStep f a a = a := by unfold bestStep; split <;> rfl
    rw [List.foldl_cons, List.headD_cons, h1]
    exact foldl_best f l [a] a ⟨by simp, fun m hm => by obtain rfl : m = a := by simpa using hm
                                                        exact .inr ⟨rfl, Int.le_refl _⟩⟩ (fun x hx m hm => by obtain rfl : x = a := by simpa using hx
                                                                                                              exact h.1 m hm) h.2
/-- where a number goes -/
def placeOf (l : List Int) (n : Int) : Nat := (l.takeWhile (fun m => decide (m < n))).length
def joinOf (l : List Int) (n : Int) : List Int := l.take (placeOf l n) ++ n :: l.drop (placeOf l n)
def leaveOf (l : List Int) (n : Int) : List Int := l.filter (fun m => !(m == n))
theorem joinOf_cons (a : Int) (l : List Int) (n : Int) : joinOf (a :: l) n = if a < n then a :: joinOf l n else n :: a :: l := by
  unfold joinOf placeOf
  by_cases h : a < n
  · simp [h]
  · simp [h]
theorem mem_joinOf (l : List Int) (n m : Int) : m ∈ joinOf l n ↔ m = n ∨ m ∈ l := by
  induction l with
  | nil => simp [joinOf, placeOf]
  | cons a l ih =>
    rw [joinOf_cons]
    split
    · simp only [List.mem_cons, ih]
      constructor
      · rintro (h | h | h) <;> simp [h]
      · rintro (h | h | h) <;> simp [h]
    · simp
theorem rising_join (l : List Int) (n : Int) (h : Rising l) (hn : n ∉ l) : Rising (joinOf l n) := by
  induction l with
  | nil => exact ⟨by simp [placeOf], trivial⟩
  | cons a l ih =>
    rw [joinOf_cons]
    have hne : n ≠ a := fun e => hn (by simp [e])
    split
    · next hlt =>
      refine ⟨fun m hm => ?_, ih h.2 (fun e => hn (List.mem_cons_of_mem _ e))⟩
      rcases (mem_joinOf l n m).1 hm with rfl | hm
      · exact hlt
      · exact h.1 m hm
    · refine ⟨fun m hm => ?_, h⟩
      rcases List.mem_cons.1 hm with rfl | hm
      · omega
      · have := h.1 m hm; omega
theorem rising_filter (p : Int → Bool) (l : List Int) (h : Rising l) : Rising (l.filter p) := by
  induction l with
  | nil => exact trivial
  | cons a l ih =>
    rw [List.filter_cons]
    split
    · exact ⟨fun m hm => h.1 m (List.mem_filter.1 hm).1, ih h.2⟩
    · exact ih h.2
theorem leave_join (l : List Int) (n : Int) (hn : n ∉ l) : leaveOf (joinOf l n) n = l := by
  have hl : leaveOf l n = l := by
    unfold leaveOf
    rw [List.filter_eq_self]
    intro m hm
    have : m ≠ n := fun e => hn (e ▸ hm)
    simpa using this
  unfold leaveOf joinOf
  rw [List.filter_append, List.filter_cons]
  simp only [beq_self_eq_true, Bool.not_true, Bool.false_eq_true, if_false]
  rw [← List.filter_append, List.take_append_drop]
  exact hl
theorem best_join (f : Int → Nat) (l : List Int) (n : Int) (hne : l ≠ []) (h : Rising l) (hn : n ∉ l) : bestOf f (joinOf l n) = bestOf f l ∨ bestOf f (joinOf l n) = n := by
  have h1 := bestOf_is f (joinOf l n) (by unfold joinOf; simp) (rising_join l n h hn)
  rcases (mem_joinOf l n _).1 h1.1 with h2 | h2
  · exact .inr h2
  · exact .inl ((h1.sub (fun m hm => (mem_joinOf l n m).2 (.inr hm)) h2).unique (bestOf_is f l hne h))
theorem mem_leaveOf (l : List Int) (n m : Int) : m ∈ leaveOf l n ↔ m ∈ l ∧ m ≠ n := by
  unfold leaveOf; simp
theorem best_leave (f : Int → Nat) (l : List Int) (n : Int) (h : Rising l) (hne : leaveOf l n ≠ []) : (n = bestOf f l ∨ bestOf f (leaveOf l n) = bestOf f l) ∧ bestOf f (leaveOf l n) ≠ n := by
  have h1 := bestOf_is f (leaveOf l n) hne (rising_filter _ l h)
  have hl : l ≠ [] := fun e => hne (by rw [e]; rfl)
  have h2 := bestOf_is f l hl h
  refine ⟨?_, ((mem_leaveOf l n _).1 h1.1).2⟩
  by_cases hn : n = bestOf f l
  · exact .inl hn
  · right
    exact h1.unique (h2.sub (fun m hm => ((mem_leaveOf l n m).1 hm).1) ((mem_leaveOf l n _).2 ⟨h2.1, fun e => hn e.symm⟩))
/-! ### checking -/
def nodeOk (n : Int) : Prop := 1 ≤ n ∧ n ≤ 6
instance (n : Int) : Decidable (nodeOk n) := by unfold nodeOk; infer_instance
/-- the first fault: its number and place -/
def nodesErr : Nat → Option Int → List Int → Int × Int
  | _, _, [] => (0, -1)
  | i, p, n :: l => if ¬ nodeOk n then (2, (i : Int)) else if ∃ q, p = some q ∧ n ≤ q then (8, (i : Int)) else nodesErr (i + 1) (some n) l
def checkErr (l : List Int) : Int × Int := if l = [] then (5, -1) else nodesErr 0 none l
theorem nodesErr_bound (i : Nat) (p : Option Int) (n : Int) (l : List Int) (h : ¬ nodeOk n) : nodesErr i p (n :: l) = (2, (i : Int)) := by simp [nodesErr, h]
theorem nodesErr_order (i : Nat) (q n : Int) (l : List Int) (h : nodeOk n) (hq : n ≤ q) : nodesErr i (some q) (n :: l) = (8, (i : Int)) := by
  simp [nodesErr, h, hq]
theorem nodesErr_next (i : Nat) (p : Option Int) (n : Int) (l : List Int) (h : nodeOk n) (hq : ∀ q, p = some q → q < n) : nodesErr i p (n :: l) = nodesErr (i + 1) (some n) l := by
  unfold nodesErr
  rw [if_neg (by simpa using h), if_neg]
  · cases l <;> rfl
  · rintro ⟨q, h1, h2⟩
    have := hq q h1; omega
theorem nodesErr_zero (l : List Int) : ∀ (i : Nat) (p : Option Int), (nodesErr i p l).1 = 0 → (∀ n ∈ l, nodeOk n) ∧ Rising l ∧ (∀ q, p = some q → ∀ n ∈ l, q < n) := by
  induction l with
  | nil => intro i p _; exact ⟨fun n h => absurd h List.not_mem_nil, trivial, fun _ _ n h => absurd h List.not_mem_nil⟩
  | cons n l ih =>
    intro i p h
    by_cases h1 : nodeOk n
    · by_cases h2 : ∃ q, p = some q ∧ n ≤ q
      · obtain ⟨q, rfl, hq⟩ := h2
        rw [nodesErr_order i q n l h1 hq] at h; cases h
      · have hq : ∀ q, p = some q → q < n := fun q e => by
          rcases Int.lt_or_le q n with h | h
          · exact h
          · exact absurd ⟨q, e, h⟩ h2
        rw [nodesErr_next i p n l h1 hq] at h
        obtain ⟨i1, i2, i3⟩ := ih _ _ h
        refine ⟨fun m hm => ?_, ⟨fun m hm => i3 n rfl m hm, i2⟩, fun q e m hm => ?_⟩
        · rcases List.mem_cons.1 hm with rfl | hm
          · exact h1
          · exact i1 m hm
        · rcases List.mem_cons.1 hm with rfl | hm
          · exact hq q e
          · have := hq q e; have := i3 n rfl m hm; omega
    · rw [nodesErr_bound i p n l h1] at h; cases h
theorem nodesErr_ok (l : List Int) : ∀ (i : Nat) (p : Option Int), (∀ n ∈ l, nodeOk n) → Rising l → (∀ q, p = some q → ∀ n ∈ l, q < n) → nodesErr i p l = (0, -1) := by
  induction l with
  | nil => intro i p _ _ _; rfl
  | cons n l ih =>
    intro i p h1 h2 h3
    rw [nodesErr_next i p n l (h1 n List.mem_cons_self) (fun q e => h3 q e n List.mem_cons_self)]
    exact ih _ _ (fun m hm => h1 m (List.mem_cons_of_mem _ hm)) h2.2 (fun q e m hm => by injection e with e; subst e; exact h2.1 m hm)
theorem checkErr_zero (l : List Int) (h : (checkErr l).1 = 0) : l ≠ [] ∧ (∀ n ∈ l, nodeOk n) ∧ Rising l := by
  unfold checkErr at h
  split at h
  · cases h
  · next hne =>
    obtain ⟨h1, h2, _⟩ := nodesErr_zero l 0 none h
    exact ⟨hne, h1, h2⟩
theorem checkErr_ok (l : List Int) (hne : l ≠ []) (h1 : ∀ n ∈ l, nodeOk n) (h2 : Rising l) : checkErr l = (0, -1) := by
  unfold checkErr
  rw [if_neg hne]
  exact nodesErr_ok l 0 none h1 h2 (fun q e => by cases e)
theorem nodesErr_place (l : List Int) : ∀ (i : Nat) (p : Option Int), (nodesErr i p l).1 = 0 → (nodesErr i p l) = (0, -1) := by
  induction l with
  | nil => intro i p _; rfl
  | cons n l ih =>
    intro i p h
    unfold nodesErr at h ⊢
    split at h
    · cases h
    · split at h
      · cases h
      · next h1 h2 => rw [if_neg h1, if_neg h2]; exact ih _ _ h
theorem nodesErr_pos (l : List Int) : ∀ (i : Nat) (p : Option Int), (nodesErr i p l).1 ≠ 0 → 0 < (nodesErr i p l).1 := by
  induction l with
  | nil => intro i p h; exact absurd rfl h
  | cons n l ih =>
    intro i p h
    unfold nodesErr at h ⊢
    split at h
    · next h1 => rw [if_pos h1]; show (0 : Int) < 2; decide
    · next h1 =>
      rw [if_neg h1]
      split at h
      · next h2 => rw [if_pos h2]; show (0 : Int) < 8; decide
      · next h2 => rw [if_neg h2]; exact ih _ _ h
theorem checkErr_pos (l : List Int) (h : (checkErr l).1 ≠ 0) : 0 < (checkErr l).1 := by
  unfold checkErr at h ⊢
  split at h
  · next h1 => rw [if_pos h1]; decide
  · next h1 => rw [if_neg h1]; exact nodesErr_pos _ _ _ h
theorem rising_length (l : List Int) : ∀ (a b : Int), Rising l → (∀ n ∈ l, a ≤ n ∧ n ≤ b) → a ≤ b + 1 → (l.length : Int) ≤ b - a + 1 := by
  induction l with
  | nil => intro a b _ _ h; simp; omega
  | cons n l ih =>
    intro a b h1 h2 h3
    have hn := h2 n List.mem_cons_self
    have := ih (n + 1) b h1.2 (fun m hm => ⟨by have := h1.1 m hm; omega, (h2 m (List.mem_cons_of_mem _ hm)).2⟩) (by omega)
    simp; omega
/-! ### joining and leaving -/
def joinErr (l : List Int) (n : Int) : Int × Int := if (nodesErr 0 none l).1 ≠ 0 then nodesErr 0 none l else if ¬ nodeOk n then (2, -1) else if n ∈ l then (6, -1) else (0, -1)
def leaveErr (l : List Int) (n : Int) : Int × Int := if (checkErr l).1 ≠ 0 then checkErr l else if n ∈ l then (0, -1) else (5, -1)
def joinRes (l : List Int) (n : Int) : List Int := if (joinErr l n).1 = 0 then joinOf l n else []
def leaveRes (l : List Int) (n : Int) : List Int := if (leaveErr l n).1 = 0 then leaveOf l n else []
theorem joinRes_ok {l : List Int} {n : Int} (h : (joinErr l n).1 = 0) : joinRes l n = joinOf l n := by unfold joinRes; rw [if_pos h]
theorem joinRes_bad {l : List Int} {n : Int} (h : (joinErr l n).1 ≠ 0) : joinRes l n = [] := by unfold joinRes; rw [if_neg h]
theorem leaveRes_ok {l : List Int} {n : Int} (h : (leaveErr l n).1 = 0) : leaveRes l n = leaveOf l n := by unfold leaveRes; rw [if_pos h]
theorem leaveRes_bad {l : List Int} {n : Int} (h : (leaveErr l n).1 ≠ 0) : leaveRes l n = [] := by unfold leaveRes; rw [if_neg h]
theorem joinErr_zero {l : List Int} {n : Int} (h : (joinErr l n).1 = 0) : nodeOk n ∧ n ∉ l := by
  unfold joinErr at h
  split at h
  · next h1 => exact absurd h h1
  · split at h
    · cases h
    · next h2 =>
      split at h
      · cases h
      · next h3 => exact ⟨by simpa using h2, h3⟩
theorem countP_place (l : List Int) (n : Int) (h : Rising l) : l.countP (fun m => decide (m < n)) = placeOf l n := by
  induction l with
  | nil => rfl
  | cons a l ih =>
    have e := ih h.2
    unfold placeOf at e ⊢
    by_cases ha : a < n
    · rw [List.countP_cons_of_pos (by simpa using ha), List.takeWhile_cons, if_pos (by simpa using ha), List.length_cons, e]
    · rw [List.countP_cons_of_neg (by simpa using ha), List.takeWhile_cons, if_neg (by simpa using ha), List.length_nil, List.countP_eq_zero]
      intro m hm
      have := h.1 m hm
      simp; omega
theorem placeOf_le (l : List Int) (n : Int) : placeOf l n ≤ l.length := by
  unfold placeOf
  exact (List.takeWhile_sublist _).length_le
theorem rising_pairwise (l : List Int) (h : Rising l) : l.Pairwise (· ≤ ·) := by
  induction l with
  | nil => exact List.Pairwise.nil
  | cons a l ih => exact List.Pairwise.cons (fun m hm => Int.le_of_lt (h.1 m hm)) (ih h.2)
end Go.Proofs.YtpacalklcdlhoaaGreatDoor

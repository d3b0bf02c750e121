/- Plain words: sorted lists of keys and values; look-up, putting, dropping; the datum that a map with any elements reads as. No program in sight. No conditions. -/
import Derived.Maps.OwnSet
import Derived.Lib.SlMapFilter
import GoSem.ClaimKeys
namespace Go.Proofs.YtpanoplcamdnkaaGreatDoor
open Go.Maps Go.Lib

/-- keys that are read as tokens: equal and in order as they are -/
structure KeyEmb {K : Type} [DecidableEq K] (lit : K → Lit) (lt : K → K → Bool) (ok okw : K → Prop) : Prop where
  wide : ∀ {x}, ok x → okw x
  same : ∀ {x y}, okw x → okw y → (lit x).sameKey (lit y) = decide (x = y)
  before : ∀ {x y}, ok x → ok y → (lit x).before (lit y) = lt x y
  irr : ∀ x, lt x x = false
  trans : ∀ {x y z}, lt x y = true → lt y z = true → lt x z = true
  total : ∀ {x y}, x ≠ y → lt x y = true ∨ lt y x = true

section
variable {K V U : Type}
def alMap (f : V → U) (L : List (K × V)) : List (K × U) := L.map fun p => (p.1, f p.2)
def AlSrt (lt : K → K → Bool) (L : List (K × V)) : Prop := L.Pairwise fun a b => lt a.1 b.1 = true
def alD (lit : K → Lit) (f : V → Value) (L : List (K × V)) : DataW Value := .map (L.map fun p => (lit p.1, .held (f p.2)))
theorem alMap_map {T : Type} (g : U → T) (f : V → U) (L : List (K × V)) : alMap g (alMap f L) = alMap (fun v => g (f v)) L := by unfold alMap; rw [List.map_map]; rfl
theorem alMap_length (f : V → U) (L : List (K × V)) : (alMap f L).length = L.length := by unfold alMap; rw [List.length_map]
theorem alMap_srt {lt : K → K → Bool} {f : V → U} {L : List (K × V)} : AlSrt lt (alMap f L) ↔ AlSrt lt L := by
  unfold AlSrt alMap
  rw [List.pairwise_map]
theorem alSrt_cons {lt : K → K → Bool} {y : K × V} {r : List (K × V)} : AlSrt lt (y :: r) ↔ (∀ x ∈ r, lt y.1 x.1 = true) ∧ AlSrt lt r := List.pairwise_cons
theorem alSrt_nil {lt : K → K → Bool} : AlSrt lt ([] : List (K × V)) := List.Pairwise.nil
theorem size_alD (lit : K → Lit) (f : V → Value) (L : List (K × V)) : Maps.size (alD lit f L) = L.length := by simp [alD, Maps.size]
variable [DecidableEq K]
def alGet (L : List (K × V)) (k : K) : Option V := (L.find? fun p => decide (p.1 = k)).map (·.2)
def alPut (lt : K → K → Bool) (k : K) (v : V) : List (K × V) → List (K × V)
  | [] => [(k, v)]
  | y :: r => if y.1 = k then (k, v) :: r else if lt k y.1 = true then (k, v) :: y :: r else y :: alPut lt k v r
def alDel (k : K) (L : List (K × V)) : List (K × V) := L.filter fun p => !decide (p.1 = k)
theorem alGet_nil (k : K) : alGet ([] : List (K × V)) k = none := rfl
theorem alGet_cons (y : K × V) (r : List (K × V)) (k : K) : alGet (y :: r) k = if y.1 = k then some y.2 else alGet r k := by
  unfold alGet
  rw [List.find?_cons]
  by_cases h : y.1 = k <;> simp [h]
theorem alGet_mem {L : List (K × V)} {k : K} {v : V} (h : alGet L k = some v) : (k, v) ∈ L := by
  induction L with
  | nil => cases h
  | cons y r ih =>
    rw [alGet_cons] at h
    split at h
    · next e =>
      injection h with h
      subst e; subst h
      exact List.mem_cons_self
    · exact List.mem_cons_of_mem _ (ih h)
theorem alGet_none {L : List (K × V)} {k : K} : alGet L k = none ↔ ∀ p ∈ L, p.1 ≠ k := by
  induction L with
  | nil => simp [alGet]
  | cons y r ih =>
    rw [alGet_cons]
    by_cases h : y.1 = k <;> simp [h, ih]
theorem alGet_map (f : V → U) (L : List (K × V)) (k : K) : alGet (alMap f L) k = (alGet L k).map f := by
  induction L with
  | nil => rfl
  | cons y r ih =>
    show alGet ((y.1, f y.2) :: alMap f r) k = _
    rw [alGet_cons, alGet_cons, ih]
    split <;> rfl
theorem alMap_put (lt : K → K → Bool) (f : V → U) (k : K) (v : V) (L : List (K × V)) : alMap f (alPut lt k v L) = alPut lt k (f v) (alMap f L) := by
  induction L with
  | nil => rfl
  | cons y r ih =>
    show _ = alPut lt k (f v) ((y.1, f y.2) :: alMap f r)
    unfold alPut
    simp only
    split
    · rfl
    · split
      · rfl
      · show (y.1, f y.2) :: alMap f (alPut lt k v r) = _
        rw [ih]
theorem alMap_del (f : V → U) (k : K) (L : List (K × V)) : alMap f (alDel k L) = alDel k (alMap f L) := by
  unfold alMap alDel
  rw [List.filter_map]
  rfl
theorem alPut_mem {lt : K → K → Bool} {k : K} {v : V} : ∀ {L : List (K × V)} {x : K × V}, x ∈ alPut lt k v L → x = (k, v) ∨ x ∈ L
  | [], x, hx => by simp [alPut] at hx; exact .inl hx
  | y :: r, x, hx => by
    unfold alPut at hx
    split at hx
    · rcases List.mem_cons.1 hx with e | e
      · exact .inl e
      · exact .inr (List.mem_cons_of_mem _ e)
    · split at hx
      · rcases List.mem_cons.1 hx with e | e
        · exact .inl e
        · exact .inr e
      · rcases List.mem_cons.1 hx with e | e
        · exact .inr (e ▸ List.mem_cons_self)
        · rcases alPut_mem e with e | e
          · exact .inl e
          · exact .inr (List.mem_cons_of_mem _ e)
theorem alSrt_del {lt : K → K → Bool} {L : List (K × V)} (h : AlSrt lt L) (k : K) : AlSrt lt (alDel k L) := h.filter _
theorem alDel_mem {L : List (K × V)} {k : K} {x : K × V} : x ∈ alDel k L ↔ x ∈ L ∧ x.1 ≠ k := by unfold alDel; simp
theorem alGet_del (L : List (K × V)) (k x : K) : alGet (alDel k L) x = if x = k then none else alGet L x := by
  induction L with
  | nil => unfold alDel alGet; simp
  | cons y r ih =>
    have e : alDel k (y :: r) = if y.1 = k then alDel k r else y :: alDel k r := by
      unfold alDel
      by_cases h : y.1 = k <;> simp [h]
    rw [e]
    by_cases h : y.1 = k
    · rw [if_pos h, ih, alGet_cons]
      by_cases hx : x = k
      · simp [hx]
      · simp [hx, show ¬ y.1 = x from fun e => hx (e.symm.trans h)]
    · rw [if_neg h, alGet_cons, ih, alGet_cons]
      by_cases hx : x = k
      · subst hx; simp [h]
      · simp [hx]
theorem alDel_length (L : List (K × V)) (k : K) : (alDel k L).length ≤ L.length := List.length_filter_le _ _
variable {lit : K → Lit} {lt : K → K → Bool} {ok okw : K → Prop}
theorem KeyEmb.ne (E : KeyEmb lit lt ok okw) {x y : K} (h : lt x y = true) : x ≠ y := fun e => by subst e; rw [E.irr] at h; cases h
theorem alSrt_put (E : KeyEmb lit lt ok okw) {L : List (K × V)} (hs : AlSrt lt L) (k : K) (v : V) : AlSrt lt (alPut lt k v L) := by
  induction L with
  | nil => exact List.pairwise_singleton _ _
  | cons y r ih =>
    obtain ⟨h1, h2⟩ := alSrt_cons.1 hs
    unfold alPut
    split
    · next e => exact alSrt_cons.2 ⟨fun x hx => by show lt k x.1 = true; rw [← e]; exact h1 x hx, h2⟩
    · next e =>
      split
      · next e2 =>
        refine alSrt_cons.2 ⟨fun x hx => ?_, hs⟩
        rcases List.mem_cons.1 hx with rfl | hx
        · exact e2
        · exact E.trans e2 (h1 x hx)
      · next e2 =>
        refine alSrt_cons.2 ⟨fun x hx => ?_, ih h2⟩
        rcases alPut_mem hx with rfl | hx
        · rcases E.total e with h3 | h3
          · exact h3
          · exact absurd h3 e2
        · exact h1 x hx
theorem alGet_put (lt : K → K → Bool) (L : List (K × V)) (k : K) (v : V) (x : K) : alGet (alPut lt k v L) x = if k = x then some v else alGet L x := by
  induction L with
  | nil => unfold alPut; rw [alGet_cons]
  | cons y r ih =>
    unfold alPut
    split
    · next e =>
      rw [alGet_cons, alGet_cons]
      by_cases hx : k = x
      · simp [hx]
      · simp [hx, e]
    · next e =>
      split
      · rw [alGet_cons]
      · rw [alGet_cons, ih, alGet_cons]
        by_cases hx : k = x
        · have hy : y.1 ≠ x := fun e4 => e (e4.trans hx.symm)
          simp [hx, hy]
        · simp [hx]
theorem alPut_length_new {k : K} {v : V} : ∀ {L : List (K × V)}, alGet L k = none → (alPut lt k v L).length = L.length + 1
  | [], _ => rfl
  | y :: r, hg => by
    have hne := alGet_none.1 hg
    unfold alPut
    rw [if_neg (hne y List.mem_cons_self)]
    split
    · rfl
    · rw [List.length_cons, alPut_length_new (alGet_none.2 fun z hz => hne z (List.mem_cons_of_mem _ hz)), List.length_cons]
theorem alPut_length_le {k : K} {v : V} : ∀ {L : List (K × V)}, (alPut lt k v L).length ≤ L.length + 1
  | [] => Nat.le_refl _
  | y :: r => by
    unfold alPut
    split
    · simp
    · split
      · simp
      · have := alPut_length_le (k := k) (v := v) (L := r)
        simp only [List.length_cons]; omega
theorem alPut_old (E : KeyEmb lit lt ok okw) {k : K} {v o : V} : ∀ {L : List (K × V)} (_ : AlSrt lt L), alGet L k = some o → (alPut lt k v L).length = L.length
  | [], _, h => by cases h
  | y :: r, hs, h => by
    obtain ⟨h1, h2⟩ := alSrt_cons.1 hs
    unfold alPut
    split
    · rfl
    · next e =>
      rw [alGet_cons, if_neg e] at h
      split
      · next e2 =>
        have h3 := h1 _ (alGet_mem h)
        have h4 := E.trans e2 h3
        rw [E.irr] at h4; cases h4
      · rw [List.length_cons, alPut_old E h2 h, List.length_cons]
/-! ### the datum of a map with any elements -/
/-- an element, as it is -/
def rawE (v : Value) : Option (DataW Value × List MemPlace) := some (.held v, [])
theorem has_alD (E : KeyEmb lit lt ok okw) (f : V → Value) {L : List (K × V)} (hL : ∀ p ∈ L, ok p.1) {x : K} (hx : okw x) : Maps.has (alD lit f L) (lit x) = (alGet L x).isSome := by
  unfold alD
  rw [Maps.has_eq]
  induction L with
  | nil => rfl
  | cons y r ih =>
    rw [List.map_cons, List.any_cons, ih (fun h hh => hL h (List.mem_cons_of_mem _ hh)), E.same (E.wide (hL y List.mem_cons_self)) hx, alGet_cons]
    by_cases hd : y.1 = x <;> simp [hd]
theorem atKey_alD (E : KeyEmb lit lt ok okw) (f : V → Value) {L : List (K × V)} (hL : ∀ p ∈ L, ok p.1) {x : K} (hx : okw x) (z : Value) : (alD lit f L).atKey (lit x) (.held z) = .held (((alGet L x).map f).getD z) := by
  unfold alD DataW.atKey
  induction L with
  | nil => rfl
  | cons y r ih =>
    have h1 := E.same (E.wide (hL y List.mem_cons_self)) hx
    have ih := ih (fun h hh => hL h (List.mem_cons_of_mem _ hh))
    simp only [List.map_cons, List.find?_cons, h1]
    rw [alGet_cons]
    by_cases hd : y.1 = x
    · simp [hd]
    · simp only [hd, decide_false, if_false]
      exact ih
theorem filter_alD (E : KeyEmb lit lt ok okw) (f : V → Value) {r : List (K × V)} {x : K} (hr : ∀ p ∈ r, ok p.1) (hx : ok x) (h : ∀ y ∈ r, y.1 ≠ x) : ((r.map fun p => (lit p.1, (.held (f p.2) : DataW Value))).filter fun p => !p.1.sameKey (lit x)) = r.map fun p => (lit p.1, .held (f p.2)) := by
  rw [List.filter_eq_self]
  intro p hp
  obtain ⟨y, hy, rfl⟩ := List.mem_map.1 hp
  simp [E.same (E.wide (hr y hy)) (E.wide hx), h y hy]
theorem put_alD (E : KeyEmb lit lt ok okw) (f : V → Value) {L : List (K × V)} (hs : AlSrt lt L) (hL : ∀ p ∈ L, ok p.1) (k : K) (v : V) (hx : ok k) : (alD lit f L).put (lit k) (.held (f v)) = alD lit f (alPut lt k v L) := by
  unfold alD DataW.put
  simp only
  congr 1
  induction L with
  | nil => rfl
  | cons y r ih =>
    obtain ⟨h1, h2⟩ := alSrt_cons.1 hs
    have hy := hL y List.mem_cons_self
    have hr : ∀ z ∈ r, ok z.1 := fun z hz => hL z (List.mem_cons_of_mem _ hz)
    unfold alPut
    by_cases e : y.1 = k
    · have hsk := E.same (E.wide hy) (E.wide hx)
      rw [if_pos e, List.map_cons, List.filter_cons, if_neg (by rw [hsk]; simp [e]), filter_alD E f hr hx (fun z hz => by rw [← e]; exact (E.ne (h1 z hz)).symm)]
      cases r with
      | nil => rfl
      | cons z q =>
        have hz := h1 z List.mem_cons_self
        have hb := E.before hx (hr z List.mem_cons_self)
        rw [e] at hz
        rw [hz] at hb
        simp [DataW.insert, hb]
    · rw [if_neg e, List.map_cons, List.filter_cons, if_pos (by simp [E.same (E.wide hy) (E.wide hx), e])]
      by_cases hb : lt k y.1 = true
      · rw [if_pos hb, filter_alD E f hr hx (fun z hz => (E.ne (E.trans hb (h1 z hz))).symm)]
        simp [DataW.insert, E.before hx hy, hb]
      · rw [if_neg hb, List.map_cons, ← ih h2 hr]
        simp [DataW.insert, E.before hx hy, hb]
theorem del_alD (E : KeyEmb lit lt ok okw) (f : V → Value) {L : List (K × V)} (hL : ∀ p ∈ L, ok p.1) (k : K) (hx : ok k) : (alD lit f L).del (lit k) = alD lit f (alDel k L) := by
  unfold alD DataW.del alDel
  simp only
  congr 1
  induction L with
  | nil => rfl
  | cons y r ih =>
    rw [List.map_cons, List.filter_cons, List.filter_cons, ih (fun z hz => hL z (List.mem_cons_of_mem _ hz)), E.same (E.wide (hL y List.mem_cons_self)) (E.wide hx)]
    by_cases e : y.1 = k <;> simp [e]
end
end Go.Proofs.YtpanoplcamdnkaaGreatDoor

/- Al, PlainNd, PlainG, PlainS in one text. Conditions: as each part says. -/

import Derived.Maps.OwnSet
import Derived.Lib.SlMapFilter
import GoSem.ClaimKeys
import Derived.Test.YtpanoplcamdnkaaGreatDoorPln2
import Derived.Test.YtpanoplcamdnkaaGreatDoorPlainH
/- Plain words: sorted lists of keys and values; look-up, putting, dropping; the datum that a map with any elements reads as. No program in sight. No conditions. -/
namespace Go.Proofs.YtpanoplcamdnkaaGreatDoor
open Go.Maps Go.Lib

/-- keys that are read as tokens: equal and in order as they are -/
structure KeyEmb {K : Type} [DecidableEq K] (lit : K → Lit) (lt : K → K → Bool) (ok okw : K → Prop) : Prop where
  wide : ∀ {x}, ok x → okw x
  same : ∀ {x y}, okw x → okw y → (lit x).sameKey (lit y) = decide (x = y)
  before : ∀ {x y}, ok x → ok y → (lit x).before (lit y) = lt x y
  irr : ∀ x, lt x x = false
  trans : ∀ {x y z}, lt x y = true → lt y z = true → lt x z = true
  total : ∀ {x y}, x ≠ y → lt x y = true ∨ lt y x = true

section
variable {K V U : Type}
def alMap (f : V → U) (L : List (K × V)) : List (K × U) := L.map fun p => (p.1, f p.2)
def AlSrt (lt : K → K → Bool) (L : List (K × V)) : Prop := L.Pairwise fun a b => lt a.1 b.1 = true
def alD (lit : K → Lit) (f : V → Value) (L : List (K × V)) : DataW Value := .map (L.map fun p => (lit p.1, .held (f p.2)))
theorem alMap_length (f : V → U) (L : List (K × V)) : (alMap f L).length = L.length := by unfold alMap; rw [List.length_map]
theorem alMap_srt {lt : K → K → Bool} {f : V → U} {L : List (K × V)} : AlSrt lt (alMap f L) ↔ AlSrt lt L := by
  unfold AlSrt alMap
  rw [List.pairwise_map]
theorem alSrt_cons {lt : K → K → Bool} {y : K × V} {r : List (K × V)} : AlSrt lt (y :: r) ↔ (∀ x ∈ r, lt y.1 x.1 = true) ∧ AlSrt lt r := List.pairwise_cons
theorem alSrt_nil {lt : K → K → Bool} : AlSrt lt ([] : List (K × V)) := List.Pairwise.nil
theorem size_alD (lit : K → Lit) (f : V → Value) (L : List (K × V)) : Maps.size (alD lit f L) = L.length := by simp [alD, Maps.size]
variable [DecidableEq K]
def alGet (L : List (K × V)) (k : K) : Option V := (L.find? fun p => decide (p.1 = k)).map (·.2)
def alPut (lt : K → K → Bool) (k : K) (v : V) : List (K × V) → List (K × V)
  | [] => [(k, v)]
  | y :: r => if y.1 = k then (k, v) :: r else if lt k y.1 = true then (k, v) :: y :: r else y :: alPut lt k v r
def alDel (k : K) (L : List (K × V)) : List (K × V) := L.filter fun p => !decide (p.1 = k)
theorem alGet_nil (k : K) : alGet ([] : List (K × V)) k = none := rfl
theorem alGet_cons (y : K × V) (r : List (K × V)) (k : K) : alGet (y :: r) k = if y.1 = k then some y.2 else alGet r k := by
  unfold alGet
  rw [List.find?_cons]
  by_cases h : y.1 = k <;> simp [h]
theorem alGet_mem {L : List (K × V)} {k : K} {v : V} (h : alGet L k = some v) : (k, v) ∈ L := by
  induction L with
  | nil => cases h
  | cons y r ih =>
    rw [alGet_cons] at h
    split at h
    · next e =>
      injection h with h
      subst e; subst h
      exact List.mem_cons_self
    · exact List.mem_cons_of_mem _ (ih h)
theorem alGet_none {L : List (K × V)} {k : K} : alGet L k = none ↔ ∀ p ∈ L, p.1 ≠ k := by
  induction L with
  | nil => simp [alGet]
  | cons y r ih =>
    rw [alGet_cons]
    by_cases h : y.1 = k <;> simp [h, ih]
theorem alGet_map (f : V → U) (L : List (K × V)) (k : K) : alGet (alMap f L) k = (alGet L k).map f := by
  induction L with
  | nil => rfl
  | cons y r ih =>
    show alGet ((y.1, f y.2) :: alMap f r) k = _
    rw [alGet_cons, alGet_cons, ih]
    split <;> rfl
theorem alMap_put (lt : K → K → Bool) (f : V → U) (k : K) (v : V) (L : List (K × V)) : alMap f (alPut lt k v L) = alPut lt k (f v) (alMap f L) := by
  induction L with
  | nil => rfl
  | cons y r ih =>
    show _ = alPut lt k (f v) ((y.1, f y.2) :: alMap f r)
    unfold alPut
    simp only
    split
    · rfl
    · split
      · rfl
      · show (y.1, f y.2) :: alMap f (alPut lt k v r) = _
        rw [ih]
theorem alMap_del (f : V → U) (k : K) (L : List (K × V)) : alMap f (alDel k L) = alDel k (alMap f L) := by
  unfold alMap alDel
  rw [List.filter_map]
  rfl
theorem alPut_mem {lt : K → K → Bool} {k : K} {v : V} : ∀ {L : List (K × V)} {x : K × V}, x ∈ alPut lt k v L → x = (k, v) ∨ x ∈ L
  | [], x, hx => by simp [alPut] at hx; exact .inl hx
  | y :: r, x, hx => by
    unfold alPut at hx
    split at hx
    · rcases List.mem_cons.1 hx with e | e
      · exact .inl e
      · exact .inr (List.mem_cons_of_mem _ e)
    · split at hx
      · rcases List.mem_cons.1 hx with e | e
        · exact .inl e
        · exact .inr e
      · rcases List.mem_cons.1 hx with e | e
        · exact .inr (e ▸ List.mem_cons_self)
        · rcases alPut_mem e with e | e
          · exact .inl e
          · exact .inr (List.mem_cons_of_mem _ e)
theorem alSrt_del {lt : K → K → Bool} {L : List (K × V)} (h : AlSrt lt L) (k : K) : AlSrt lt (alDel k L) := h.filter _
theorem alDel_mem {L : List (K × V)} {k : K} {x : K × V} : x ∈ alDel k L ↔ x ∈ L ∧ x.1 ≠ k := by unfold alDel; simp
theorem alGet_del (L : List (K × V)) (k x : K) : alGet (alDel k L) x = if x = k then none else alGet L x := by
  induction L with
  | nil => unfold alDel alGet; simp
  | cons y r ih =>
    have e : alDel k (y :: r) = if y.1 = k then alDel k r else y :: alDel k r := by
      unfold alDel
      by_cases h : y.1 = k <;> simp [h]
    rw [e]
    by_cases h : y.1 = k
    · rw [if_pos h, ih, alGet_cons]
      by_cases hx : x = k
      · simp [hx]
      · simp [hx, show ¬ y.1 = x from fun e => hx (e.symm.trans h)]
    · rw [if_neg h, alGet_cons, ih, alGet_cons]
      by_cases hx : x = k
      · subst hx; simp [h]
      · simp [hx]
theorem alDel_length (L : List (K × V)) (k : K) : (alDel k L).length ≤ L.length := List.length_filter_le _ _
variable {lit : K → Lit} {lt : K → K → Bool} {ok okw : K → Prop}
theorem KeyEmb.ne (E : KeyEmb lit lt ok okw) {x y : K} (h : lt x y = true) : x ≠ y := fun e => by subst e; rw [E.irr] at h; cases h
theorem alSrt_put (E : KeyEmb lit lt ok okw) {L : List (K × V)} (hs : AlSrt lt L) (k : K) (v : V) : AlSrt lt (alPut lt k v L) := by
  induction L with
  | nil => exact List.pairwise_singleton _ _
  | cons y r ih =>
    obtain ⟨h1, h2⟩ := alSrt_cons.1 hs
    unfold alPut
    split
    · next e => exact alSrt_cons.2 ⟨fun x hx => by show lt k x.1 = true; rw [← e]; exact h1 x hx, h2⟩
    · next e =>
      split
      · next e2 =>
        refine alSrt_cons.2 ⟨fun x hx => ?_, hs⟩
        rcases List.mem_cons.1 hx with rfl | hx
        · exact e2
        · exact E.trans e2 (h1 x hx)
      · next e2 =>
        refine alSrt_cons.2 ⟨fun x hx => ?_, ih h2⟩
        rcases alPut_mem hx with rfl | hx
        · rcases E.total e with h3 | h3
          · exact h3
          · exact absurd h3 e2
        · exact h1 x hx
theorem alGet_put (lt : K → K → Bool) (L : List (K × V)) (k : K) (v : V) (x : K) : alGet (alPut lt k v L) x = if k = x then some v else alGet L x := by
  induction L with
  | nil => unfold alPut; rw [alGet_cons]
  | cons y r ih =>
    unfold alPut
    split
    · next e =>
      rw [alGet_cons, alGet_cons]
      by_cases hx : k = x
      · simp [hx]
      · simp [hx, e]
    · next e =>
      split
      · rw [alGet_cons]
      · rw [alGet_cons, ih, alGet_cons]
        by_cases hx : k = x
        · have hy : y.1 ≠ x := fun e4 => e (e4.trans hx.symm)
          simp [hx, hy]
        · simp [hx]
theorem alPut_length_new {k : K} {v : V} : ∀ {L : List (K × V)}, alGet L k = none → (alPut lt k v L).length = L.length + 1
  | [], _ => rfl
  | y :: r, hg => by
    have hne := alGet_none.1 hg
    unfold alPut
    rw [if_neg (hne y List.mem_cons_self)]
    split
    · rfl
    · rw [List.length_cons, alPut_length_new (alGet_none.2 fun z hz => hne z (List.mem_cons_of_mem _ hz)), List.length_cons]
theorem alPut_length_le {k : K} {v : V} : ∀ {L : List (K × V)}, (alPut lt k v L).length ≤ L.length + 1
  | [] => Nat.le_refl _
  | y :: r => by
    unfold alPut
    split
    · simp
    · split
      · simp
      · have := alPut_length_le (k := k) (v := v) (L := r)
        simp only [List.length_cons]; omega
/-! ### the datum of a map with any elements -/
/-- an element, as it is -/
def rawE (v : Value) : Option (DataW Value × List MemPlace) := some (.held v, [])
theorem has_alD (E : KeyEmb lit lt ok okw) (f : V → Value) {L : List (K × V)} (hL : ∀ p ∈ L, ok p.1) {x : K} (hx : okw x) : Maps.has (alD lit f L) (lit x) = (alGet L x).isSome := by
  unfold alD
  rw [Maps.has_eq]
  induction L with
  | nil => rfl
  | cons y r ih =>
    rw [List.map_cons, List.any_cons, ih (fun h hh => hL h (List.mem_cons_of_mem _ hh)), E.same (E.wide (hL y List.mem_cons_self)) hx, alGet_cons]
    by_cases hd : y.1 = x <;> simp [hd]
theorem atKey_alD (E : KeyEmb lit lt ok okw) (f : V → Value) {L : List (K × V)} (hL : ∀ p ∈ L, ok p.1) {x : K} (hx : okw x) (z : Value) : (alD lit f L).atKey (lit x) (.held z) = .held (((alGet L x).map f).getD z) := by
  unfold alD DataW.atKey
  induction L with
  | nil => rfl
  | cons y r ih =>
    have h1 := E.same (E.wide (hL y List.mem_cons_self)) hx
    have ih := ih (fun h hh => hL h (List.mem_cons_of_mem _ hh))
    simp only [List.map_cons, List.find?_cons, h1]
    rw [alGet_cons]
    by_cases hd : y.1 = x
    · simp [hd]
    · simp only [hd, decide_false, if_false]
      exact ih
theorem filter_alD (E : KeyEmb lit lt ok okw) (f : V → Value) {r : List (K × V)} {x : K} (hr : ∀ p ∈ r, ok p.1) (hx : ok x) (h : ∀ y ∈ r, y.1 ≠ x) : ((r.map fun p => (lit p.1, (.held (f p.2) : DataW Value))).filter fun p => !p.1.sameKey (lit x)) = r.map fun p => (lit p.1, .held (f p.2)) := by
  rw [List.filter_eq_self]
  intro p hp
  obtain ⟨y, hy, rfl⟩ := List.mem_map.1 hp
  simp [E.same (E.wide (hr y hy)) (E.wide hx), h y hy]
theorem put_alD (E : KeyEmb lit lt ok okw) (f : V → Value) {L : List (K × V)} (hs : AlSrt lt L) (hL : ∀ p ∈ L, ok p.1) (k : K) (v : V) (hx : ok k) : (alD lit f L).put (lit k) (.held (f v)) = alD lit f (alPut lt k v L) := by
  unfold alD DataW.put
  simp only
  congr 1
  induction L with
  | nil => rfl
  | cons y r ih =>
    obtain ⟨h1, h2⟩ := alSrt_cons.1 hs
    have hy := hL y List.mem_cons_self
    have hr : ∀ z ∈ r, ok z.1 := fun z hz => hL z (List.mem_cons_of_mem _ hz)
    unfold alPut
    by_cases e : y.1 = k
    · have hsk := E.same (E.wide hy) (E.wide hx)
      rw [if_pos e, List.map_cons, List.filter_cons, if_neg (by rw [hsk]; simp [e]), filter_alD E f hr hx (fun z hz => by rw [← e]; exact (E.ne (h1 z hz)).symm)]
      cases r with
      | nil => rfl
      | cons z q =>
        have hz := h1 z List.mem_cons_self
        have hb := E.before hx (hr z List.mem_cons_self)
        rw [e] at hz
        rw [hz] at hb
        simp [DataW.insert, hb]
    · rw [if_neg e, List.map_cons, List.filter_cons, if_pos (by simp [E.same (E.wide hy) (E.wide hx), e])]
      by_cases hb : lt k y.1 = true
      · rw [if_pos hb, filter_alD E f hr hx (fun z hz => (E.ne (E.trans hb (h1 z hz))).symm)]
        simp [DataW.insert, E.before hx hy, hb]
      · rw [if_neg hb, List.map_cons, ← ih h2 hr]
        simp [DataW.insert, E.before hx hy, hb]
theorem del_alD (E : KeyEmb lit lt ok okw) (f : V → Value) {L : List (K × V)} (hL : ∀ p ∈ L, ok p.1) (k : K) (hx : ok k) : (alD lit f L).del (lit k) = alD lit f (alDel k L) := by
  unfold alD DataW.del alDel
  simp only
  congr 1
  induction L with
  | nil => rfl
  | cons y r ih =>
    rw [List.map_cons, List.filter_cons, List.filter_cons, ih (fun z hz => hL z (List.mem_cons_of_mem _ hz)), E.same (E.wide (hL y List.mem_cons_self)) (E.wide hx)]
    by_cases e : y.1 = k <;> simp [e]
end
end Go.Proofs.YtpanoplcamdnkaaGreatDoor
/- Plain words: a node: files by names, bins by reps; putting, getting, dropping, sweeping; what a node always is. No program in sight. No conditions. -/
namespace Go.Proofs.YtpanoplcamdnkaaGreatDoor
open Go.Maps Go.Lib

/-! ### uses of a bin -/
def usesB (L : HldL) (x : Idn) : Int := ((getB L x).map Hld.uses).getD 0
theorem usesB_some {L : HldL} {x : Idn} {h : Hld} (e : getB L x = some h) : usesB L x = h.uses := by unfold usesB; rw [e]; rfl
theorem usesB_none {L : HldL} {x : Idn} (e : getB L x = none) : usesB L x = 0 := by unfold usesB; rw [e]; rfl
theorem usesB_set {L : HldL} (hs : SrtB L) (h : Hld) (x : Idn) : usesB (setB h L) x = if h.id = x then h.uses else usesB L x := by
  unfold usesB
  rw [getB_set hs]
  split <;> rfl
theorem putB_ok {s : Bytes} {L : HldL} (h : (putB s L).2.2.2 = 0) : putB s L = (setB ⟨idOf s, usesB L (idOf s) + 1, s⟩ L, idOf s, (getB L (idOf s)).isNone, 0) ∧ rightB s = true ∧ (∀ o, getB L (idOf s) = some o → o.text = s) ∧ (getB L (idOf s) = none → L.length < 250) := by
  unfold putB at h ⊢
  split at h
  · exact absurd (show (2 : Int) = 0 from h) (by decide)
  · next hr =>
    rw [if_neg hr]
    split at h
    · next o hg =>
      split at h
      · exact absurd (show (10 : Int) = 0 from h) (by decide)
      · next ht =>
        rw [if_neg ht, usesB_some hg, hg]
        exact ⟨rfl, by simpa using hr, fun o' e => by injection e with e; subst e; exact Decidable.not_not.1 ht, fun e => by cases e⟩
    · next hg =>
      split at h
      · exact absurd (show (7 : Int) = 0 from h) (by decide)
      · next hl =>
        rw [if_neg hl, usesB_none hg, hg]
        exact ⟨rfl, by simpa using hr, fun o' e => by (cases e), fun _ => by omega⟩
/-- pieces put one behind the other: the new bin, how many bytes are new, an error's number -/
def putAll : List Bytes → HldL → Int → HldL × Int × Int
  | [], L, f => (L, f, 0)
  | p :: r, L, f => if (putB p L).2.2.2 = 0 then putAll r (putB p L).1 (f + if (putB p L).2.2.1 then (p.length : Int) else 0) else ((putB p L).1, 0, (putB p L).2.2.2)
theorem putAll_cons {p : Bytes} {r : List Bytes} {L : HldL} {f : Int} (h : (putAll (p :: r) L f).2.2 = 0) : (putB p L).2.2.2 = 0 ∧ putAll (p :: r) L f = putAll r (putB p L).1 (f + if (putB p L).2.2.1 then (p.length : Int) else 0) := by
  have e : putAll (p :: r) L f = if (putB p L).2.2.2 = 0 then putAll r (putB p L).1 (f + if (putB p L).2.2.1 then (p.length : Int) else 0) else ((putB p L).1, 0, (putB p L).2.2.2) := by rw [putAll]
  rw [e] at h ⊢
  by_cases h0 : (putB p L).2.2.2 = 0
  · exact ⟨h0, by rw [if_pos h0]⟩
  · rw [if_neg h0] at h; exact absurd h h0
/-- what stays of a bin in which pieces were put -/
structure PutSt (ps : List Bytes) (L L' : HldL) : Prop where
  uses : ∀ x, usesB L' x = usesB L x + ((ps.map idOf).count x : Int)
  has : ∀ p ∈ ps, ∃ h, getB L' (idOf p) = some h ∧ h.text = p
  kept : ∀ x h, getB L x = some h → ∃ h', getB L' x = some h' ∧ h'.text = h.text
  ok : ∀ n : Int, 0 ≤ n → BinOk n L → BinOk (n + ps.length) L'
  len : L.length ≤ 250 → L'.length ≤ 250
theorem putAll_st : ∀ (ps : List Bytes) (L : HldL) (f : Int), SrtB L → (putAll ps L f).2.2 = 0 → PutSt ps L (putAll ps L f).1
  | [], L, f, _, _ => ⟨fun x => by simp [putAll], fun p hp => (by cases hp), fun x h e => ⟨h, e, rfl⟩, fun n _ hb => by simpa [putAll] using hb, fun h => h⟩
  | p :: r, L, f, hs, h => by
    obtain ⟨h0, h1⟩ := putAll_cons h
    rw [h1] at h ⊢
    obtain ⟨e, hr, ht, hn⟩ := putB_ok h0
    have hs2 : SrtB (putB p L).1 := by rw [e]; exact srtB_set hs _
    have ih := putAll_st r (putB p L).1 _ hs2 h
    generalize (putAll r (putB p L).1 (f + if (putB p L).2.2.1 then (p.length : Int) else 0)).1 = L' at ih ⊢
    have e1 : (putB p L).1 = setB ⟨idOf p, usesB L (idOf p) + 1, p⟩ L := by rw [e]
    have hget : ∀ x, getB (putB p L).1 x = if idOf p = x then some ⟨idOf p, usesB L (idOf p) + 1, p⟩ else getB L x := fun x => by rw [e1, getB_set hs]
    refine ⟨fun x => ?_, fun q hq => ?_, fun x o hx => ?_, fun n hn0 hb => ?_, fun hl => ih.len (length_put hs hl)⟩
    · rw [ih.uses, e1, usesB_set hs, List.map_cons, List.count_cons]
      by_cases hx : idOf p = x
      · subst hx; simp; omega
      · simp [hx]
    · rcases List.mem_cons.1 hq with rfl | hq
      · obtain ⟨o, ho, ht'⟩ := ih.kept (idOf q) _ (by rw [hget, if_pos rfl])
        exact ⟨o, ho, ht'⟩
      · exact ih.has q hq
    · by_cases hpx : idOf p = x
      · obtain ⟨o', ho', ht'⟩ := ih.kept x ⟨idOf p, usesB L (idOf p) + 1, p⟩ (by rw [hget, if_pos hpx])
        refine ⟨o', ho', ht'.trans ?_⟩
        subst hpx
        exact (ht o hx).symm
      · exact ih.kept x o (by rw [hget, if_neg hpx]; exact hx)
    · have := ih.ok (n + 1) (by omega) (binOk_put hn0 hb p)
      rw [List.length_cons]
      exact this.mono (by omega)
theorem putAll_code : ∀ (ps : List Bytes) (L : HldL) (f : Int), (putAll ps L f).2.2 = 0 ∨ (putAll ps L f).2.2 = 2 ∨ (putAll ps L f).2.2 = 7 ∨ (putAll ps L f).2.2 = 10
  | [], _, _ => .inl rfl
  | p :: r, L, f => by
    unfold putAll
    split
    · exact putAll_code r _ _
    · show (putB p L).2.2.2 = 0 ∨ (putB p L).2.2.2 = 2 ∨ (putB p L).2.2.2 = 7 ∨ (putB p L).2.2.2 = 10
      unfold putB
      split
      · simp
      · split
        · split <;> simp
        · split <;> simp
/-- uses dropped one behind the other -/
def dropAll : IdL → HldL → HldL × Int
  | [], L => (L, 0)
  | x :: r, L => if (dropB x L).2 = 0 then dropAll r (dropB x L).1 else dropB x L
structure DropSt (ids : IdL) (L L' : HldL) : Prop where
  uses : ∀ x, usesB L' x = usesB L x - (ids.count x : Int)
  kept : ∀ x, (getB L' x).map Hld.text = (getB L x).map Hld.text
  ok : ∀ n : Int, BinOk n L → BinOk n L'
  len : L'.length = L.length
theorem dropB_used {x : Idn} {L : HldL} (h : 0 < usesB L x) : ∃ o, getB L x = some o ∧ dropB x L = (setB ⟨o.id, o.uses - 1, o.text⟩ L, 0) ∧ o.uses ≠ 0 := by
  cases hg : getB L x with
  | none => rw [usesB_none hg] at h; omega
  | some o =>
    rw [usesB_some hg] at h
    refine ⟨o, rfl, ?_, by omega⟩
    unfold dropB
    rw [hg]
    simp only
    rw [if_neg (by omega)]
theorem dropAll_st : ∀ (ids : IdL) (L : HldL), SrtB L → (∀ x, (ids.count x : Int) ≤ usesB L x) → (dropAll ids L).2 = 0 ∧ DropSt ids L (dropAll ids L).1
  | [], L, _, _ => ⟨rfl, fun x => by simp [dropAll], fun _ => rfl, fun _ h => h, rfl⟩
  | y :: r, L, hs, h => by
    have hy := h y
    rw [List.count_cons] at hy
    simp only [beq_self_eq_true, if_true] at hy
    obtain ⟨o, ho, e, _⟩ := dropB_used (x := y) (L := L) (by omega)
    have hid := (getB_mem ho).2
    have e1 : (dropB y L).1 = setB ⟨o.id, o.uses - 1, o.text⟩ L := by rw [e]
    have hu : ∀ x, usesB (dropB y L).1 x = usesB L x - (if y = x then 1 else 0) := fun x => by
      rw [e1, usesB_set hs]
      show (if o.id = x then o.uses - 1 else usesB L x) = _
      rw [hid]
      by_cases hx : y = x
      · subst hx; simp [usesB_some ho]
      · simp [hx]
    have ih := dropAll_st r (dropB y L).1 (by rw [e1]; exact srtB_set hs _) (fun x => by
      have := h x
      rw [List.count_cons] at this
      rw [hu]
      by_cases hx : y = x
      · subst hx; simp at this ⊢; omega
      · simp [hx] at this ⊢; omega)
    unfold dropAll
    rw [if_pos (by rw [e])]
    refine ⟨ih.1, fun x => ?_, fun x => ?_, fun n hb => ih.2.ok n (binOk_drop hb y), by rw [ih.2.len, length_drop hs]⟩
    · rw [ih.2.uses, hu, List.count_cons]
      by_cases hx : y = x
      · subst hx; simp; omega
      · simp [hx]
    · rw [ih.2.kept, e1, getB_set hs]
      show ((if o.id = x then some _ else getB L x).map Hld.text) = _
      rw [hid]
      by_cases hx : y = x
      · subst hx; rw [if_pos rfl, ho]; rfl
      · rw [if_neg hx]
theorem getB_sweep {L : HldL} (hs : SrtB L) (x : Idn) : getB (sweepB L) x = match getB L x with | some h => if h.uses = 0 then none else some h | none => none := by
  induction L with
  | nil => rfl
  | cons y r ih =>
    obtain ⟨h1, h2⟩ := srtB_cons.1 hs
    have e3 : getB (y :: r) x = if y.id = x then some y else getB r x := by unfold getB; rw [List.find?_cons]; by_cases hy : y.id = x <;> simp [hy]
    have e4 : getB (sweepB (y :: r)) x = if usedB y = true then (if y.id = x then some y else getB (sweepB r) x) else getB (sweepB r) x := by
      unfold sweepB
      rw [List.filter_cons]
      split
      · unfold getB; rw [List.find?_cons]; by_cases hy : y.id = x <;> simp [hy]
      · rfl
    rw [e3, e4, ih h2]
    by_cases hy : y.id = x
    · simp only [hy, if_true]
      by_cases hu : y.uses = 0
      · have : usedB y = false := by unfold usedB; simp [hu]
        simp only [this, Bool.false_eq_true, if_false, hu, if_true]
        have hn : getB r x = none := getB_none.2 fun z hz e => by
          have := h1 z hz
          rw [hy, e, lesser_irrefl] at this; cases this
        rw [hn]
      · have : usedB y = true := by unfold usedB; simp [hu]
        simp only [this, if_true, hu, if_false]
    · simp only [hy, if_false]
      split <;> rfl
theorem usesB_sweep {L : HldL} (hs : SrtB L) (x : Idn) : usesB (sweepB L) x = usesB L x := by
  unfold usesB
  rw [getB_sweep hs]
  cases hg : getB L x with
  | none => rfl
  | some h =>
    simp only
    by_cases hu : h.uses = 0
    · rw [if_pos hu]; simp [hu]
    · rw [if_neg hu]
/-! ### keys -/
def strLit (s : Bytes) : Lit := .string s
theorem bytesBefore_irr : ∀ x : Bytes, bytesBefore x x = false
  | [] => rfl
  | c :: r => by
    show (decide (c < c) || (c == c && bytesBefore r r)) = false
    rw [bytesBefore_irr r, Bool.and_false, Bool.or_false, decide_eq_false_iff_not, UInt8.lt_iff_toNat_lt]
    omega
theorem bytesBefore_cons {a b : UInt8} {r s : Bytes} : bytesBefore (a :: r) (b :: s) = true ↔ a.toNat < b.toNat ∨ (a = b ∧ bytesBefore r s = true) := by
  show (decide (a < b) || (a == b && bytesBefore r s)) = true ↔ _
  rw [Bool.or_eq_true, decide_eq_true_iff, UInt8.lt_iff_toNat_lt, Bool.and_eq_true, beq_iff_eq]
theorem bytesBefore_trans : ∀ {x y z : Bytes}, bytesBefore x y = true → bytesBefore y z = true → bytesBefore x z = true
  | [], [], _, h, _ => by cases h
  | [], _ :: _, [], _, h => by cases h
  | [], _ :: _, _ :: _, _, _ => rfl
  | _ :: _, [], _, h, _ => by cases h
  | _ :: _, _ :: _, [], _, h => by cases h
  | a :: r, b :: s, c :: t, h1, h2 => by
    rw [bytesBefore_cons] at h1 h2 ⊢
    rcases h1 with h1 | ⟨rfl, h1⟩
    · rcases h2 with h2 | ⟨rfl, h2⟩
      · exact .inl (by omega)
      · exact .inl h1
    · rcases h2 with h2 | ⟨rfl, h2⟩
      · exact .inl h2
      · exact .inr ⟨rfl, bytesBefore_trans h1 h2⟩
theorem bytesBefore_total : ∀ {x y : Bytes}, x ≠ y → bytesBefore x y = true ∨ bytesBefore y x = true
  | [], [], h => absurd rfl h
  | [], _ :: _, _ => .inl rfl
  | _ :: _, [], _ => .inr rfl
  | a :: r, b :: s, h => by
    rw [bytesBefore_cons, bytesBefore_cons]
    by_cases hab : a = b
    · subst hab
      rcases bytesBefore_total (x := r) (y := s) (fun e => h (by rw [e])) with h1 | h1
      · exact .inl (.inr ⟨rfl, h1⟩)
      · exact .inr (.inr ⟨rfl, h1⟩)
    · have : a.toNat ≠ b.toNat := fun e => hab (UInt8.toNat_inj.1 e)
      omega
def StrOk (b : Bytes) : Prop := b.length ≤ maxLen
theorem strEmb : KeyEmb strLit bytesBefore StrOk StrOk where
  wide := fun h => h
  same := fun {x y} _ _ => by show (x == y) = _; rw [Bool.eq_iff_iff, beq_iff_eq, decide_eq_true_iff]
  before := fun _ _ => rfl
  irr := bytesBefore_irr
  trans := bytesBefore_trans
  total := bytesBefore_total
def IdOk0 (x : Idn) : Prop := IdOk x ∧ 0 ≤ x.2
theorem idEmb : KeyEmb idLit lesser IdOk0 IdOk where
  wide := fun h => h.1
  same := fun hx hy => idLit_same hx hy
  before := fun hx hy => idLit_before hx.1 hy.1 hx.2 hy.2
  irr := lesser_irrefl
  trans := lesser_trans
  total := lesser_total
/-! ### sums over sorted lists -/
section
variable {K V : Type} [DecidableEq K] {lit : K → Lit} {lt : K → K → Bool} {ok okw : K → Prop}
theorem alPut_sum (g : K × V → Int) (k : K) (v : V) : ∀ {L : List (K × V)}, alGet L k = none → ((alPut lt k v L).map g).sum = g (k, v) + (L.map g).sum
  | [], _ => by simp [alPut]
  | y :: r, h => by
    have hne := alGet_none.1 h y List.mem_cons_self
    have hr : alGet r k = none := alGet_none.2 fun z hz => alGet_none.1 h z (List.mem_cons_of_mem _ hz)
    unfold alPut
    rw [if_neg hne]
    split
    · rw [List.map_cons, List.sum_cons]
    · rw [List.map_cons, List.sum_cons, alPut_sum g k v hr, List.map_cons, List.sum_cons]; omega
theorem alDel_none {k : K} : ∀ {L : List (K × V)}, alGet L k = none → alDel k L = L := by
  intro L h
  unfold alDel
  rw [List.filter_eq_self]
  intro p hp
  have := alGet_none.1 h p hp
  simp [this]
theorem alDel_sum (E : KeyEmb lit lt ok okw) (g : K × V → Int) {k : K} {v : V} : ∀ {L : List (K × V)}, AlSrt lt L → alGet L k = some v → (L.map g).sum = g (k, v) + ((alDel k L).map g).sum
  | [], _, h => by cases h
  | y :: r, hs, h => by
    obtain ⟨h1, h2⟩ := alSrt_cons.1 hs
    rw [alGet_cons] at h
    have e : alDel k (y :: r) = if y.1 = k then alDel k r else y :: alDel k r := by
      unfold alDel
      by_cases hy : y.1 = k <;> simp [hy]
    by_cases hy : y.1 = k
    · rw [if_pos hy] at h
      injection h with h
      have hn : alGet r k = none := alGet_none.2 fun z hz e2 => E.ne (h1 z hz) (hy.trans e2.symm)
      rw [e, if_pos hy, alDel_none hn, List.map_cons, List.sum_cons]
      have : y = (k, v) := Prod.ext hy h
      rw [this]
    · rw [if_neg hy] at h
      rw [e, if_neg hy, List.map_cons, List.sum_cons, alDel_sum E g h2 h, List.map_cons, List.sum_cons]; omega
theorem alGet_of_mem (E : KeyEmb lit lt ok okw) {L : List (K × V)} (hs : AlSrt lt L) {q : K × V} (hq : q ∈ L) : alGet L q.1 = some q.2 := by
  induction L with
  | nil => cases hq
  | cons y r ih =>
    obtain ⟨h1, h2⟩ := alSrt_cons.1 hs
    rw [alGet_cons]
    rcases List.mem_cons.1 hq with rfl | hq
    · rw [if_pos rfl]
    · rw [if_neg (E.ne (h1 q hq)), ih h2 hq]
end
/-! ### a node -/
structure PNode where
  files : List (Bytes × Rcp)
  bins : List (Idn × HldL)
def repR (r : Rcp) : Idn := repOf r.ids
/-- how often a piece is used by files of a rep -/
def useN (F : List (Bytes × Rcp)) (x y : Idn) : Int := (F.map fun q => if repR q.2 = x then (q.2.ids.count y : Int) else 0).sum
def binN (P : PNode) (x : Idn) : HldL := (alGet P.bins x).getD []
/-- the new node, how many bytes are new, an error's number -/
def putN (name s : Bytes) (P : PNode) : PNode × Int × Int :=
  if isName name = false then (P, 0, 4) else if 4000 < s.length then (P, 0, 2) else if (alGet P.files name).isSome = true then (P, 0, 6) else if 30 ≤ P.files.length then (P, 0, 7) else
  if (putAll (pieces s) (binN P (repOf (idsOf s))) 0).2.2 = 0 then
    (⟨alPut bytesBefore name (rcpOf name s) P.files, alPut lesser (repOf (idsOf s)) (putAll (pieces s) (binN P (repOf (idsOf s))) 0).1 P.bins⟩, (putAll (pieces s) (binN P (repOf (idsOf s))) 0).2.1, 0)
  else (P, 0, (putAll (pieces s) (binN P (repOf (idsOf s))) 0).2.2)
def textB (L : HldL) (x : Idn) : Bytes := ((getB L x).map Hld.text).getD []
def getN (name : Bytes) (P : PNode) : Bytes × Int := match alGet P.files name with
  | none => ([], 5)
  | some r => ((r.ids.map (textB (binN P (repR r)))).flatten, 0)
/-- a rep without a file has no bin -/
def tidyN (F : List (Bytes × Rcp)) (x : Idn) (L : HldL) (B : List (Idn × HldL)) : List (Idn × HldL) := if F.any (fun q => decide (repR q.2 = x)) = true then alPut lesser x L B else alDel x B
def dropN (name : Bytes) (P : PNode) : PNode × Int := match alGet P.files name with
  | none => (P, 5)
  | some r => (⟨alDel name P.files, tidyN (alDel name P.files) (repR r) (dropAll r.ids (binN P (repR r))).1 P.bins⟩, 0)
def sweepN (P : PNode) : PNode := ⟨P.files, alMap sweepB P.bins⟩
def sizeN (P : PNode) : Int := (P.bins.map fun q => sizeB q.2).sum
/-- what a node always is -/
structure NodeOk (P : PNode) : Prop where
  fsrt : AlSrt bytesBefore P.files
  bsrt : AlSrt lesser P.bins
  flen : P.files.length ≤ 30
  file : ∀ k r, alGet P.files k = some r → ∃ s, isName k = true ∧ s.length ≤ 4000 ∧ r = rcpOf k s ∧ ∃ L, alGet P.bins (repR r) = some L ∧ ∀ p ∈ pieces s, ∃ h, getB L (idOf p) = some h ∧ h.text = p
  bin : ∀ x L, alGet P.bins x = some L → IdOk0 x ∧ (∃ n : Int, 0 ≤ n ∧ BinOk n L) ∧ L.length ≤ 250 ∧ (∀ y, usesB L y = useN P.files x y) ∧ ∃ k r, alGet P.files k = some r ∧ repR r = x
theorem NodeOk.nil : NodeOk ⟨[], []⟩ := ⟨alSrt_nil, alSrt_nil, by simp, fun _ _ h => by (cases h), fun _ _ h => by (cases h)⟩
theorem useN_none {F : List (Bytes × Rcp)} {x : Idn} (h : ∀ q ∈ F, repR q.2 ≠ x) (y : Idn) : useN F x y = 0 := by
  unfold useN
  induction F with
  | nil => rfl
  | cons q r ih => rw [List.map_cons, List.sum_cons, if_neg (h q List.mem_cons_self), ih (fun z hz => h z (List.mem_cons_of_mem _ hz))]; rfl
theorem useN_nonneg (F : List (Bytes × Rcp)) (x y : Idn) : 0 ≤ useN F x y := by
  unfold useN
  induction F with
  | nil => exact Int.le_refl _
  | cons q r ih =>
    rw [List.map_cons, List.sum_cons]
    split <;> omega
theorem useN_le {F : List (Bytes × Rcp)} (h : ∀ q ∈ F, q.2.ids.length ≤ 250) (x y : Idn) : useN F x y ≤ 250 * F.length := by
  unfold useN
  induction F with
  | nil => exact Int.le_refl _
  | cons q r ih =>
    have h1 := ih (fun z hz => h z (List.mem_cons_of_mem _ hz))
    have h2 := h q List.mem_cons_self
    have h3 : q.2.ids.count y ≤ q.2.ids.length := List.count_le_length
    rw [List.map_cons, List.sum_cons, List.length_cons]
    split <;> omega
theorem useN_put {F : List (Bytes × Rcp)} {k : Bytes} (hg : alGet F k = none) (r : Rcp) (x y : Idn) : useN (alPut bytesBefore k r F) x y = (if repR r = x then (r.ids.count y : Int) else 0) + useN F x y :=
  alPut_sum _ k r hg
theorem useN_del {F : List (Bytes × Rcp)} (hs : AlSrt bytesBefore F) {k : Bytes} {r : Rcp} (hg : alGet F k = some r) (x y : Idn) : useN F x y = (if repR r = x then (r.ids.count y : Int) else 0) + useN (alDel k F) x y :=
  alDel_sum strEmb _ hs hg
theorem idsOf_le {s : Bytes} (h : s.length ≤ 4000) : (idsOf s).length ≤ 250 := by
  have := pieces_len s
  unfold idsOf
  rw [List.length_map]; omega
theorem idOf_ok0 {p : Bytes} (h : p.length ≤ 64) : IdOk0 (idOf p) := ⟨⟨prOf_lt _, by show (-9223372036854775808 : Int) ≤ ((p.length : Nat) : Int); omega, by show ((p.length : Nat) : Int) ≤ _; omega⟩, by show (0 : Int) ≤ ((p.length : Nat) : Int); omega⟩
theorem rep_ok0 (s : Bytes) : IdOk0 (repOf (idsOf s)) := by
  by_cases h : idsOf s = []
  · rw [h]; exact idOf_ok0 (by decide)
  · have := repOf_mem h
    obtain ⟨p, hp, e⟩ := List.mem_map.1 this
    rw [← e]
    exact idOf_ok0 (pieces_max s p hp)
theorem NodeOk.ids {P : PNode} (h : NodeOk P) : ∀ q ∈ P.files, q.2.ids.length ≤ 250 := fun q hq => by
  obtain ⟨s, _, h2, h3, _⟩ := h.file q.1 q.2 (alGet_of_mem strEmb h.fsrt hq)
  rw [h3]; exact idsOf_le h2
theorem getB_of_mem {L : HldL} (hs : SrtB L) {h : Hld} (hm : h ∈ L) : getB L h.id = some h := by
  induction L with
  | nil => cases hm
  | cons y r ih =>
    obtain ⟨h1, h2⟩ := srtB_cons.1 hs
    have e3 : getB (y :: r) h.id = if y.id = h.id then some y else getB r h.id := by unfold getB; rw [List.find?_cons]; by_cases hy : y.id = h.id <;> simp [hy]
    rw [e3]
    rcases List.mem_cons.1 hm with rfl | hm
    · rw [if_pos rfl]
    · rw [if_neg (lesser_ne (h1 h hm)), ih h2 hm]
theorem NodeOk.bin7 {P : PNode} (h : NodeOk P) {x : Idn} {L : HldL} (hg : alGet P.bins x = some L) : BinOk 7500 L := by
  obtain ⟨_, ⟨n, hn0, hb⟩, _, hu, _⟩ := h.bin x L hg
  refine ⟨hb.srt, fun o ho => ?_⟩
  have h1 := hb.all o ho
  have h2 := hu o.id
  rw [usesB_some (getB_of_mem hb.srt ho)] at h2
  have h3 := useN_le h.ids x o.id
  have h4 := h.flen
  exact ⟨h1.id, h1.len, h1.uses.1, by omega⟩
theorem NodeOk.theBin {P : PNode} (h : NodeOk P) (x : Idn) : BinOk 7500 (binN P x) ∧ (binN P x).length ≤ 250 ∧ ∀ y, usesB (binN P x) y = useN P.files x y := by
  unfold binN
  cases hg : alGet P.bins x with
  | some L => exact ⟨h.bin7 hg, (h.bin x L hg).2.2.1, (h.bin x L hg).2.2.2.1⟩
  | none =>
    refine ⟨BinOk.nil _, by simp, fun y => ?_⟩
    rw [useN_none (fun q hq e => ?_)]
    · rfl
    · obtain ⟨s, _, _, _, L, hL, _⟩ := h.file q.1 q.2 (alGet_of_mem strEmb h.fsrt hq)
      rw [e, hg] at hL; cases hL
/-! ### putting -/
theorem NodeOk.put {P : PNode} (h : NodeOk P) (name s : Bytes) : NodeOk (putN name s P).1 := by
  unfold putN
  split
  · exact h
  · next h1 =>
    split
    · exact h
    · next h2 =>
      split
      · exact h
      · next h3 =>
        split
        · exact h
        · next h4 =>
          split
          · next h5 =>
            have hno : alGet P.files name = none := by cases hg : alGet P.files name with | none => rfl | some _ => rw [hg] at h3; exact absurd rfl h3
            obtain ⟨hb, hbl, hbu⟩ := h.theBin (repOf (idsOf s))
            have hst := putAll_st (pieces s) (binN P (repOf (idsOf s))) 0 hb.srt h5
            generalize hL : (putAll (pieces s) (binN P (repOf (idsOf s))) 0).1 = L' at hst ⊢
            have hrep : repR (rcpOf name s) = repOf (idsOf s) := rfl
            have hfs := alSrt_put strEmb h.fsrt name (rcpOf name s)
            refine ⟨hfs, alSrt_put idEmb h.bsrt _ _, ?_, fun k r hg => ?_, fun x L hg => ?_⟩
            · show (alPut bytesBefore name (rcpOf name s) P.files).length ≤ 30
              rw [alPut_length_new hno]; omega
            · show ∃ s', _ ∧ _ ∧ _ ∧ ∃ L, alGet (alPut lesser (repOf (idsOf s)) L' P.bins) (repR r) = some L ∧ _
              have hg : alGet (alPut bytesBefore name (rcpOf name s) P.files) k = some r := hg
              rw [alGet_put] at hg
              split at hg
              · next e =>
                injection hg with hg
                subst hg; subst e
                exact ⟨s, by simpa using h1, by omega, rfl, L', by rw [alGet_put, if_pos hrep.symm], hst.has⟩
              · obtain ⟨s0, a1, a2, a3, L0, a4, a5⟩ := h.file k r hg
                refine ⟨s0, a1, a2, a3, ?_⟩
                rw [alGet_put]
                by_cases e : repOf (idsOf s) = repR r
                · refine ⟨L', by rw [if_pos e], fun p hp => ?_⟩
                  obtain ⟨o, ho, ht⟩ := a5 p hp
                  have hbn : binN P (repOf (idsOf s)) = L0 := by unfold binN; rw [e, a4]; rfl
                  obtain ⟨o', ho', ht'⟩ := hst.kept (idOf p) o (by rw [hbn]; exact ho)
                  exact ⟨o', ho', ht'.trans ht⟩
                · exact ⟨L0, by rw [if_neg e]; exact a4, a5⟩
            · have hg : alGet (alPut lesser (repOf (idsOf s)) L' P.bins) x = some L := hg
              show IdOk0 x ∧ _ ∧ _ ∧ (∀ y, usesB L y = useN (alPut bytesBefore name (rcpOf name s) P.files) x y) ∧ ∃ k r, alGet (alPut bytesBefore name (rcpOf name s) P.files) k = some r ∧ _
              rw [alGet_put] at hg
              split at hg
              · next e =>
                injection hg with hg
                subst hg; subst e
                refine ⟨rep_ok0 s, ⟨7500 + (pieces s).length, by omega, hst.ok 7500 (by decide) hb⟩, hst.len hbl, fun y => ?_, name, rcpOf name s, by rw [alGet_put, if_pos rfl], rfl⟩
                rw [hst.uses, hbu, useN_put hno, hrep, if_pos rfl]
                show _ + ((idsOf s).count y : Int) = ((idsOf s).count y : Int) + _
                omega
              · next e =>
                obtain ⟨a1, a2, a3, a4, k, r, a5, a6⟩ := h.bin x L hg
                refine ⟨a1, a2, a3, fun y => ?_, k, r, ?_, a6⟩
                · rw [a4, useN_put hno, hrep, if_neg e]; omega
                · rw [alGet_put, if_neg (fun e2 => by rw [← e2, hno] at a5; cases a5)]; exact a5
          · exact h
/-! ### dropping -/
theorem NodeOk.drops {P : PNode} (h : NodeOk P) {name : Bytes} {r : Rcp} (hg : alGet P.files name = some r) : (dropAll r.ids (binN P (repR r))).2 = 0 ∧ DropSt r.ids (binN P (repR r)) (dropAll r.ids (binN P (repR r))).1 := by
  obtain ⟨hb, _, hbu⟩ := h.theBin (repR r)
  refine dropAll_st r.ids _ hb.srt fun x => ?_
  rw [hbu, useN_del h.fsrt hg, if_pos rfl]
  have := useN_nonneg (alDel name P.files) (repR r) x
  omega
theorem any_rep {F : List (Bytes × Rcp)} {x : Idn} : F.any (fun q => decide (repR q.2 = x)) = true ↔ ∃ q ∈ F, repR q.2 = x := by simp
theorem alGet_tidy (F : List (Bytes × Rcp)) (x : Idn) (L : HldL) (B : List (Idn × HldL)) (y : Idn) : alGet (tidyN F x L B) y = if x = y then (if F.any (fun q => decide (repR q.2 = x)) = true then some L else none) else alGet B y := by
  unfold tidyN
  split
  · rw [alGet_put]
  · rw [alGet_del]
    by_cases e : x = y
    · rw [if_pos e.symm, if_pos e]
    · rw [if_neg (fun h => e h.symm), if_neg e]
theorem NodeOk.drop {P : PNode} (h : NodeOk P) (name : Bytes) : NodeOk (dropN name P).1 := by
  unfold dropN
  cases hg : alGet P.files name with
  | none => exact h
  | some r =>
    obtain ⟨_, hst⟩ := h.drops hg
    obtain ⟨hb, hbl, hbu⟩ := h.theBin (repR r)
    simp only
    generalize (dropAll r.ids (binN P (repR r))).1 = L' at hst ⊢
    have hdl : ∀ k r', alGet (alDel name P.files) k = some r' → k ≠ name ∧ alGet P.files k = some r' := fun k r' e => by
      rw [alGet_del] at e
      split at e
      · cases e
      · next hne => exact ⟨hne, e⟩
    refine ⟨alSrt_del h.fsrt name, ?_, Nat.le_trans (alDel_length _ _) h.flen, fun k r' hk => ?_, fun x L hx => ?_⟩
    · show AlSrt lesser (tidyN _ _ _ _)
      unfold tidyN
      split
      · exact alSrt_put idEmb h.bsrt _ _
      · exact alSrt_del h.bsrt _
    · show ∃ s, _ ∧ _ ∧ _ ∧ ∃ L, alGet (tidyN (alDel name P.files) (repR r) L' P.bins) (repR r') = some L ∧ _
      obtain ⟨hne, hk'⟩ := hdl k r' hk
      obtain ⟨s, a1, a2, a3, L0, a4, a5⟩ := h.file k r' hk'
      refine ⟨s, a1, a2, a3, ?_⟩
      rw [alGet_tidy]
      by_cases e : repR r = repR r'
      · refine ⟨L', by rw [if_pos e, if_pos (any_rep.2 ⟨(k, r'), alGet_mem hk, e.symm⟩)], fun p hp => ?_⟩
        obtain ⟨o, ho, ht⟩ := a5 p hp
        have hbn : binN P (repR r) = L0 := by unfold binN; rw [e, a4]; rfl
        have := hst.kept (idOf p)
        rw [hbn, ho] at this
        cases hq : getB L' (idOf p) with
        | none => rw [hq] at this; cases this
        | some o' =>
          rw [hq] at this
          injection this with this
          exact ⟨o', rfl, this.trans ht⟩
      · exact ⟨L0, by rw [if_neg e]; exact a4, a5⟩
    · have hx : alGet (tidyN (alDel name P.files) (repR r) L' P.bins) x = some L := hx
      show IdOk0 x ∧ _ ∧ _ ∧ (∀ y, usesB L y = useN (alDel name P.files) x y) ∧ ∃ k r', alGet (alDel name P.files) k = some r' ∧ _
      rw [alGet_tidy] at hx
      split at hx
      · next e =>
        split at hx
        · next hany =>
          injection hx with hx
          subst hx; subst e
          obtain ⟨s, _, _, _, L0, a4, _⟩ := h.file name r hg
          obtain ⟨b1, _⟩ := h.bin _ _ a4
          obtain ⟨q, hq, hqr⟩ := any_rep.1 hany
          refine ⟨b1, ⟨7500, by decide, hst.ok _ hb⟩, by rw [hst.len]; exact hbl, fun y => ?_, q.1, q.2, alGet_of_mem strEmb (alSrt_del h.fsrt name) hq, hqr⟩
          rw [hst.uses, hbu, useN_del h.fsrt hg, if_pos rfl]; omega
        · cases hx
      · next e =>
        obtain ⟨a1, a2, a3, a4, k, r', a5, a6⟩ := h.bin x L hx
        refine ⟨a1, a2, a3, fun y => ?_, k, r', ?_, a6⟩
        · rw [a4, useN_del h.fsrt hg, if_neg e]; omega
        · rw [alGet_del, if_neg (fun e2 => by subst e2; rw [hg] at a5; injection a5 with a5; subst a5; exact e a6)]; exact a5
/-! ### sweeping -/
theorem alSrt_map {K V U : Type} {lt : K → K → Bool} (f : V → U) {L : List (K × V)} (h : AlSrt lt L) : AlSrt lt (alMap f L) := alMap_srt.2 h
theorem count_pos_of {s p : Bytes} (hp : p ∈ pieces s) : 0 < (idsOf s).count (idOf p) := List.count_pos_iff.2 (List.mem_map_of_mem hp)
theorem NodeOk.sweep {P : PNode} (h : NodeOk P) : NodeOk (sweepN P) := by
  refine ⟨h.fsrt, alSrt_map sweepB h.bsrt, h.flen, fun k r hk => ?_, fun x L hx => ?_⟩
  · have hk : alGet P.files k = some r := hk
    obtain ⟨s, a1, a2, a3, L0, a4, a5⟩ := h.file k r hk
    refine ⟨s, a1, a2, a3, sweepB L0, ?_, fun p hp => ?_⟩
    · show alGet (alMap sweepB P.bins) (repR r) = _
      rw [alGet_map, a4]; rfl
    · obtain ⟨o, ho, ht⟩ := a5 p hp
      refine ⟨o, ?_, ht⟩
      have hb := h.bin7 a4
      rw [getB_sweep hb.srt, ho]
      simp only
      have hu := (h.bin _ _ a4).2.2.2.1 (idOf p)
      rw [usesB_some ho, useN_del h.fsrt hk, if_pos rfl] at hu
      have h1 := useN_nonneg (alDel k P.files) (repR r) (idOf p)
      have h2 := count_pos_of hp
      have h3 : r.ids.count (idOf p) = (idsOf s).count (idOf p) := by rw [a3]; rfl
      rw [if_neg (by omega)]
  · have hx : alGet (alMap sweepB P.bins) x = some L := hx
    rw [alGet_map] at hx
    cases hg : alGet P.bins x with
    | none => rw [hg] at hx; cases hx
    | some L0 =>
      rw [hg] at hx
      injection hx with hx
      subst hx
      obtain ⟨a1, ⟨n, hn, hb⟩, a3, a4, a5⟩ := h.bin x L0 hg
      exact ⟨a1, ⟨n, hn, binOk_filter hb usedB⟩, Nat.le_trans (List.length_filter_le _ _) a3, fun y => by rw [usesB_sweep hb.srt]; exact a4 y, a5⟩
/-! ### getting -/
theorem NodeOk.get {P : PNode} (h : NodeOk P) {name : Bytes} {r : Rcp} (hg : alGet P.files name = some r) : ∃ s, isName name = true ∧ s.length ≤ 4000 ∧ r = rcpOf name s ∧ getN name P = (s, 0) ∧ (∃ L, alGet P.bins (repR r) = some L ∧ (idsOf s).map (textB L) = pieces s ∧ ∀ x ∈ idsOf s, (getB L x).isSome = true) := by
  obtain ⟨s, a1, a2, a3, L, a4, a5⟩ := h.file name r hg
  have e : (idsOf s).map (textB L) = pieces s := by
    unfold idsOf
    rw [List.map_map]
    conv => rhs; rw [← List.map_id (pieces s)]
    refine List.map_congr_left fun p hp => ?_
    obtain ⟨o, ho, ht⟩ := a5 p hp
    show ((getB L (idOf p)).map Hld.text).getD [] = p
    rw [ho]; exact ht
  refine ⟨s, a1, a2, a3, ?_, L, a4, e, fun x hx => ?_⟩
  · unfold getN
    rw [hg]
    simp only
    have hbn : binN P (repR r) = L := by unfold binN; rw [a4]; rfl
    rw [hbn, show r.ids = idsOf s by rw [a3]; rfl, e, pieces_flatten]
  · obtain ⟨p, hp, rfl⟩ := List.mem_map.1 hx
    obtain ⟨o, ho, _⟩ := a5 p hp
    rw [ho]; rfl
/-! ### how many bins -/
theorem nodup_len {α : Type} [DecidableEq α] : ∀ {A B : List α}, A.Nodup → (∀ a ∈ A, a ∈ B) → A.length ≤ B.length
  | [], _, _, _ => Nat.zero_le _
  | a :: A, B, hn, h => by
    obtain ⟨h1, h2⟩ := List.nodup_cons.1 hn
    have := nodup_len (A := A) (B := B.erase a) h2 (fun x hx => (List.mem_erase_of_ne (fun e => by subst e; exact h1 hx)).2 (h x (List.mem_cons_of_mem _ hx)))
    rw [List.length_erase_of_mem (h a List.mem_cons_self)] at this
    have hp : 0 < B.length := List.length_pos_of_mem (h a List.mem_cons_self)
    rw [List.length_cons]; omega
theorem al_nodup {K V : Type} [DecidableEq K] {lit : K → Lit} {lt : K → K → Bool} {ok okw : K → Prop} (E : KeyEmb lit lt ok okw) {L : List (K × V)} (h : AlSrt lt L) : (L.map (·.1)).Nodup := by
  unfold List.Nodup
  rw [List.pairwise_map]
  exact h.imp fun hab => E.ne hab
theorem NodeOk.blen {P : PNode} (h : NodeOk P) : P.bins.length ≤ P.files.length := by
  have := nodup_len (A := P.bins.map (·.1)) (B := P.files.map fun q => repR q.2) (al_nodup idEmb h.bsrt) (fun x hx => by
    obtain ⟨q, hq, rfl⟩ := List.mem_map.1 hx
    obtain ⟨_, _, _, _, k, r, h1, h2⟩ := h.bin q.1 q.2 (alGet_of_mem idEmb h.bsrt hq)
    rw [← h2]
    exact List.mem_map_of_mem (f := fun q : Bytes × Rcp => repR q.2) (alGet_mem h1))
  simpa using this
theorem NodeOk.size {P : PNode} (h : NodeOk P) : 0 ≤ sizeN P ∧ sizeN P ≤ 16000 * P.bins.length := by
  have hb : ∀ q ∈ P.bins, 0 ≤ sizeB q.2 ∧ sizeB q.2 ≤ 16000 := fun q hq => by
    have hg := alGet_of_mem idEmb h.bsrt hq
    have := (h.bin7 hg).size
    have hl := (h.bin q.1 q.2 hg).2.2.1
    omega
  unfold sizeN
  generalize P.bins = B at hb
  induction B with
  | nil => simp
  | cons q r ih =>
    have h1 := ih (fun z hz => hb z (List.mem_cons_of_mem _ hz))
    have h2 := hb q List.mem_cons_self
    rw [List.map_cons, List.sum_cons, List.length_cons]; omega
/-! ### what Names, Reps, Recipe, Bin ask of a node -/
structure NodeW (P : PNode) : Prop where
  fsrt : AlSrt bytesBefore P.files
  bsrt : AlSrt lesser P.bins
  flen : P.files.length ≤ 30
  blen : P.bins.length ≤ 30
  fk : ∀ q ∈ P.files, q.1.length ≤ 30 ∧ q.2.ids.length ≤ 250
  bk : ∀ q ∈ P.bins, IdOk0 q.1 ∧ BinOk 7500 q.2 ∧ q.2.length ≤ 250
theorem NodeOk.w {P : PNode} (h : NodeOk P) : NodeW P := ⟨h.fsrt, h.bsrt, h.flen, Nat.le_trans h.blen h.flen, fun q hq => by
    obtain ⟨s, h1, _⟩ := h.file q.1 q.2 (alGet_of_mem strEmb h.fsrt hq)
    have := isName_le h1
    exact ⟨by omega, h.ids q hq⟩, fun q hq => by
    have hg := alGet_of_mem idEmb h.bsrt hq
    exact ⟨(h.bin _ _ hg).1, h.bin7 hg, (h.bin _ _ hg).2.2.1⟩⟩
end Go.Proofs.YtpanoplcamdnkaaGreatDoor
/- Plain words: pieces of a bin as a text, read back, and filled in. No program in sight. No conditions. -/
namespace Go.Proofs.YtpanoplcamdnkaaGreatDoor
open Go.RowKit Go.Lib

/-! ### a piece in front of a text -/
/-- a piece in front, and what stands behind -/
def oneF (s : Bytes) : Option (Hld × Bytes) := match byteCut 10 s with
  | none => none
  | some (head, rest) => match byteCut 32 head with
    | none => none
    | some (i, u) => match readId i, numOf u 6 with
      | some (p, n), some k => if rest[n]? = some 10 then some (⟨(p, (n : Int)), (k : Int), rest.take n⟩, rest.drop (n + 1)) else none
      | _, _ => none
theorem oneF_inv {s : Bytes} {x : Hld} {r : Bytes} (h : oneF s = some (x, r)) : ∃ head rest i u p n k, byteCut 10 s = some (head, rest) ∧ byteCut 32 head = some (i, u) ∧ readId i = some (p, n) ∧ numOf u 6 = some k ∧ rest[n]? = some 10 ∧
    x = ⟨(p, (n : Int)), (k : Int), rest.take n⟩ ∧ r = rest.drop (n + 1) := by
  unfold oneF at h
  split at h
  · cases h
  · next head rest h1 =>
    split at h
    · cases h
    · next i u h2 =>
      split at h
      · next p n k h3 h4 =>
        split at h
        · next h5 =>
          injection h with h
          injection h with e1 e2
          exact ⟨head, rest, i, u, p, n, k, h1, h2, h3, h4, h5, e1.symm, e2.symm⟩
        · cases h
      · cases h
theorem oneF_shorter {s : Bytes} {x : Hld} {r : Bytes} (h : oneF s = some (x, r)) : r.length < s.length := by
  obtain ⟨head, rest, i, u, p, n, k, h1, _, _, _, h5, _, rfl⟩ := oneF_inv h
  obtain ⟨rfl, _⟩ := byteCut_some _ _ _ _ h1
  simp only [List.length_append, List.length_cons, List.length_drop]
  omega
/-! ### is a piece what its ID says, above the one ahead? -/
def markB (q : Option Hld) (h : Hld) : Int := if idOf h.text ≠ h.id then 9 else match q with
  | some q => if lesser q.id h.id = true then 0 else 8
  | none => 0
theorem markB_fine {q h : Hld} (e : idOf h.text = h.id) (e2 : lesser q.id h.id = true) : markB (some q) h = 0 := by unfold markB; rw [if_neg (by simp [e])]; simp [e2]
theorem markB_first {h : Hld} (e : idOf h.text = h.id) : markB none h = 0 := by unfold markB; rw [if_neg (by simp [e])]
/-- of the piece at a place -/
def markAt (l : HldL) (i : Nat) (h : Hld) : Int := markB (if i = 0 then none else l[i - 1]?) h
/-! ### reading -/
/-- pieces, an error's number and its place -/
def readF (acc : HldL) (s : Bytes) : HldL × Int × Int :=
  if s = [] then (acc, 0, -1) else
  match _h : oneF s with
  | none => ([], 1, acc.length)
  | some (x, r) => if markB acc.getLast? x = 0 then readF (acc ++ [x]) r else ([], markB acc.getLast? x, acc.length)
termination_by s.length
decreasing_by exact oneF_shorter _h
/-- reading a text: too long, or as it is -/
def readHF (s : Bytes) : HldL × Int × Int := if 40000 < s.length then ([], 2, -1) else readF [] s
/-! ### a text of pieces -/
def lineF (h : Hld) : Bytes := idText h.id.1 h.id.2 ++ 32 :: (itoa h.uses ++ 10 :: (h.text ++ [10]))
def textF (l : HldL) : Bytes := (l.map lineF).flatten
/-! ### filling -/
def rightB2 (h : Hld) : Bool := rightB h.text && decide (0 ≤ h.uses)
/-- what is wrong of a piece at a place -/
def fillAt (l : HldL) (i : Nat) (h : Hld) : Int := if rightB2 h = true then markAt l i h else 2
/-- the first piece that is wrong, from a place on -/
def fillFrom (l : HldL) : Nat → HldL → Int × Int
  | _, [] => (0, -1)
  | i, h :: r => if fillAt l i h = 0 then fillFrom l (i + 1) r else (fillAt l i h, i)
def fillF (l : HldL) : Int × Int := if 250 < l.length then (7, -1) else fillFrom l 0 l
/-- the rest is to be looked at -/
def FillSt (l : HldL) (k : Nat) : Prop := fillFrom l 0 l = fillFrom l k (l.drop k) ∧ ∀ j (hj : j < l.length), j < k → fillAt l j l[j] = 0
theorem FillSt.start (l : HldL) : FillSt l 0 := ⟨rfl, fun _ _ h => absurd h (Nat.not_lt_zero _)⟩
theorem FillSt.next {l : HldL} {k : Nat} (h : FillSt l k) (hk : k < l.length) (e : fillAt l k l[k] = 0) : FillSt l (k + 1) := by
  refine ⟨?_, fun j hj hjk => ?_⟩
  · rw [h.1, List.drop_eq_getElem_cons hk, fillFrom, if_pos e]
  · by_cases hjj : j = k
    · subst hjj; exact e
    · exact h.2 j hj (by omega)
theorem FillSt.hit {l : HldL} {k : Nat} (h : FillSt l k) (hk : k < l.length) (e : fillAt l k l[k] ≠ 0) : fillFrom l 0 l = (fillAt l k l[k], (k : Int)) := by
  rw [h.1, List.drop_eq_getElem_cons hk, fillFrom, if_neg e]
theorem FillSt.done {l : HldL} (h : FillSt l l.length) : fillFrom l 0 l = (0, -1) := by rw [h.1, List.drop_length, fillFrom]
theorem fillAt_right {l : HldL} {i : Nat} {h : Hld} (e : fillAt l i h = 0) : rightB2 h = true ∧ markAt l i h = 0 := by
  unfold fillAt at e
  split at e
  · next hr => exact ⟨hr, e⟩
  · exact absurd e (by decide)
theorem markB_id {q : Option Hld} {h : Hld} (e : markB q h = 0) : h.id = idOf h.text := by
  unfold markB at e
  split at e
  · exact absurd e (by decide)
  · next hh => exact (Decidable.not_not.1 hh).symm
theorem FillSt.taken {l : HldL} {k : Nat} (h : FillSt l k) (hk : k ≤ l.length) (n : Int) (hn : ∀ x ∈ l, x.uses ≤ n) : BinOk n (l.take k) := by
  induction k with
  | zero => rw [List.take_zero]; exact BinOk.nil n
  | succ k ih =>
    have hkl : k < l.length := by omega
    have e := h.2 k hkl (Nat.lt_succ_self k)
    obtain ⟨e1, e2⟩ := fillAt_right e
    have hst : FillSt l k := by
      refine ⟨?_, fun j hj hjk => h.2 j hj (by omega)⟩
      have h1 := h.1
      rw [h1, List.drop_eq_getElem_cons hkl (l := l), fillFrom, if_pos e]
    have hb := ih hst (by omega)
    have hl : HldOk n l[k] := by
      unfold rightB2 at e1
      rw [Bool.and_eq_true, decide_eq_true_iff] at e1
      exact ⟨markB_id e2, rightB_iff.1 e1.1, e1.2, hn _ (List.getElem_mem hkl)⟩
    rw [List.take_succ_eq_append_getElem hkl]
    refine ⟨List.pairwise_append.2 ⟨hb.srt, List.pairwise_singleton _ _, fun x hx y hy => ?_⟩, fun x hx => ?_⟩
    · rw [List.mem_singleton] at hy
      subst hy
      unfold markAt at e2
      by_cases hk0 : k = 0
      · subst hk0; simp at hx
      · rw [if_neg hk0, List.getElem?_eq_getElem (by omega : k - 1 < l.length)] at e2
        have hord : lesser l[k - 1].id l[k].id = true := by
          unfold markB at e2
          split at e2
          · exact absurd e2 (by decide)
          · simp only at e2
            split at e2
            · assumption
            · exact absurd e2 (by decide)
        have hlast : l.take k = l.take (k - 1) ++ [l[k - 1]] := by
          have := List.take_succ_eq_append_getElem (show k - 1 < l.length by omega)
          rwa [show k - 1 + 1 = k by omega] at this
        rw [hlast] at hx
        rcases List.mem_append.1 hx with hx | hx
        · have hs := hb.srt
          rw [hlast] at hs
          have := (List.pairwise_append.1 hs).2.2 x hx l[k - 1] (List.mem_singleton.2 rfl)
          exact lesser_trans this hord
        · rw [List.mem_singleton.1 hx]; exact hord
    · rcases List.mem_append.1 hx with hx | hx
      · exact hb.all x hx
      · rw [List.mem_singleton.1 hx]; exact hl
/-- a piece above all the others comes last -/
theorem setB_last {L : HldL} {h : Hld} (hl : ∀ x ∈ L, lesser x.id h.id = true) : setB h L = L ++ [h] := by
  induction L with
  | nil => rfl
  | cons y r ih =>
    have h1 := hl y List.mem_cons_self
    unfold setB
    rw [if_neg (lesser_ne h1), if_neg (fun e => by have := lesser_trans h1 e; rw [lesser_irrefl] at this; cases this), ih (fun x hx => hl x (List.mem_cons_of_mem _ hx))]
    rfl
theorem FillSt.set {l : HldL} {k : Nat} (h : FillSt l k) (hk : k < l.length) (e : fillAt l k l[k] = 0) : setB l[k] (l.take k) = l.take (k + 1) := by
  have hb := (h.next hk e).taken hk (l.foldl (fun m x => max m x.uses) 0) (fun x hx => by
    have : ∀ (q : HldL) (m : Int), m ≤ q.foldl (fun m x => max m x.uses) m ∧ ∀ y ∈ q, y.uses ≤ q.foldl (fun m x => max m x.uses) m := by
      intro q
      induction q with
      | nil => intro m; exact ⟨Int.le_refl _, fun _ h => by cases h⟩
      | cons z q ih =>
        intro m
        have h1 := ih (max m z.uses)
        have h2 := h1.1
        refine ⟨by show m ≤ q.foldl _ (max m z.uses); omega, fun y hy => ?_⟩
        show y.uses ≤ q.foldl _ (max m z.uses)
        rcases List.mem_cons.1 hy with rfl | hy
        · omega
        · exact h1.2 y hy
    exact (this l 0).2 x hx)
  have hs := hb.srt
  rw [List.take_succ_eq_append_getElem hk] at hs ⊢
  exact setB_last fun x hx => (List.pairwise_append.1 hs).2.2 x hx l[k] (List.mem_singleton.2 rfl)
/-! ### what is written is read -/
end Go.Proofs.YtpanoplcamdnkaaGreatDoor
/- Plain words: scrubbing: a file, a bin, all of them; a node that is right is found right. No program in sight. No conditions. -/
namespace Go.Proofs.YtpanoplcamdnkaaGreatDoor
open Go.Lib

/-- a rep and its pieces -/
structure Load where
  rep : Idn
  l : HldL
/-- is a piece in no load of the rep? -/
def lacks (x : Idn) (L : HldL) : Bool := !(L.any fun h => decide (h.id = x))
/-- a file behind another one (or none), and all loads: an error's number -/
def fileS (prev : Option Rcp) (r : Rcp) (ls : List Load) : Int :=
  if (rcpFault r).1 ≠ 0 then (rcpFault r).1
  else if (match prev with | some p => !(bytesBefore p.name r.name) | none => false) = true then 8
  else match ls.find? (fun b => decide (b.rep = repOf r.ids)) with
    | none => 5
    | some b => if r.ids.any (fun x => lacks x b.l) = true then 5 else 0
/-- is a file's rep, and each of its pieces, there? -/
def thereS (r : Rcp) (ls : List Load) : Int := match ls.find? (fun b => decide (b.rep = repOf r.ids)) with
    | none => 5
    | some b => if r.ids.any (fun x => lacks x b.l) = true then 5 else 0
theorem thereS_some {r : Rcp} {ls : List Load} {b : Load} (h : ls.find? (fun b => decide (b.rep = repOf r.ids)) = some b) : thereS r ls = if r.ids.any (fun x => lacks x b.l) = true then 5 else 0 := by unfold thereS; rw [h]
theorem fileS_3 {prev : Option Rcp} {r : Rcp} {ls : List Load} (h : (rcpFault r).1 = 0) (hp : ∀ p, prev = some p → bytesBefore p.name r.name = true) : fileS prev r ls = thereS r ls := by
  cases prev with
  | none =>
    unfold fileS
    rw [if_neg (by simp [h]), if_neg (by simp)]; rfl
  | some p =>
    unfold fileS
    rw [if_neg (by simp [h]), if_neg (by simp [hp p rfl])]; rfl
def prevR (fs : List Rcp) (i : Nat) : Option Rcp := if i = 0 then none else fs[i - 1]?
/-- how often files of a rep use a piece -/
def useS (fs : List Rcp) (x y : Idn) : Int := (fs.map fun r => if repOf r.ids = x then (r.ids.count y : Int) else 0).sum
/-- how many files a rep has -/
def nS (fs : List Rcp) (x : Idn) : Nat := (fs.filter fun r => decide (repOf r.ids = x)).length
def oneL (fs : List Rcp) (x : Idn) : Option Hld → HldL → Int
  | _, [] => 0
  | q, h :: r => if markB q h ≠ 0 then markB q h else if h.uses ≠ useS fs x h.id then 11 else oneL fs x (some h) r
/-- a bin: an error's number -/
def oneS (fs : List Rcp) (x : Idn) (l : HldL) : Int := if nS fs x = 0 then 3 else oneL fs x none l
/-- a bin behind another one (or none) -/
def loadS (fs : List Rcp) (prev : Option Load) (b : Load) : Int :=
  if (match prev with | some p => !(lesser p.rep b.rep) | none => false) = true then 8 else oneS fs b.rep b.l
def filesL (ls : List Load) : Option Rcp → Nat → List Rcp → Int × Int
  | _, _, [] => (0, -1)
  | q, i, r :: t => if fileS q r ls ≠ 0 then (fileS q r ls, i) else filesL ls (some r) (i + 1) t
def loadsL (fs : List Rcp) : Option Load → Nat → List Load → Int × Int
  | _, _, [] => (0, -1)
  | q, i, b :: t => if loadS fs q b ≠ 0 then (loadS fs q b, i) else loadsL fs (some b) (i + 1) t
/-- files and bins: an error's number and its place -/
def checkS (fs : List Rcp) (ls : List Load) : Int × Int :=
  if 30 < fs.length then (7, -1) else if (filesL ls none 0 fs).1 ≠ 0 then filesL ls none 0 fs else loadsL fs none 0 ls
/-! ### a node -/
def filesN (P : PNode) : List Rcp := P.files.map (·.2)
def loadsN (P : PNode) : List Load := P.bins.map fun q => ⟨q.1, q.2⟩
theorem useS_files (P : PNode) (x y : Idn) : useS (filesN P) x y = useN P.files x y := by
  unfold useS useN filesN
  rw [List.map_map]; rfl
theorem oneL_ok {fs : List Rcp} {x : Idn} : ∀ {l : HldL} {q : Option Hld}, SrtB l → (∀ h ∈ l, idOf h.text = h.id ∧ h.uses = useS fs x h.id) → (∀ p, q = some p → ∀ h ∈ l, lesser p.id h.id = true) → oneL fs x q l = 0
  | [], _, _, _, _ => rfl
  | h :: r, q, hs, ha, hq => by
    obtain ⟨h1, h2⟩ := srtB_cons.1 hs
    obtain ⟨e, eu⟩ := ha h List.mem_cons_self
    have hm : markB q h = 0 := by
      cases q with
      | none => exact markB_first e
      | some p => exact markB_fine e (hq p rfl h List.mem_cons_self)
    unfold oneL
    rw [if_neg (by simp [hm]), if_neg (by simp [eu])]
    exact oneL_ok h2 (fun z hz => ha z (List.mem_cons_of_mem _ hz)) (fun p hp z hz => by injection hp with hp; subst hp; exact h1 z hz)
theorem filesL_ok {ls : List Load} : ∀ {l : List Rcp} {q : Option Rcp} {i : Nat}, l.Pairwise (fun a b => bytesBefore a.name b.name = true) → (∀ p, q = some p → ∀ r ∈ l, bytesBefore p.name r.name = true) → (∀ r ∈ l, (rcpFault r).1 = 0 ∧ thereS r ls = 0) → filesL ls q i l = (0, -1)
  | [], _, _, _, _, _ => rfl
  | r :: t, q, i, hs, hq, ha => by
    obtain ⟨h1, h2⟩ := List.pairwise_cons.1 hs
    obtain ⟨e1, e2⟩ := ha r List.mem_cons_self
    have e : fileS q r ls = 0 := by rw [fileS_3 e1 (fun p hp => hq p hp r List.mem_cons_self), e2]
    unfold filesL
    rw [if_neg (by simp [e])]
    exact filesL_ok h2 (fun p hp z hz => by injection hp with hp; subst hp; exact h1 z hz) (fun z hz => ha z (List.mem_cons_of_mem _ hz))
theorem loadS_ok {fs : List Rcp} {q : Option Load} {b : Load} (hq : ∀ p, q = some p → lesser p.rep b.rep = true) (ho : oneS fs b.rep b.l = 0) : loadS fs q b = 0 := by
  cases q with
  | none => unfold loadS; rw [if_neg (by simp)]; exact ho
  | some p => unfold loadS; rw [if_neg (by simp [hq p rfl])]; exact ho
theorem find_loads {B : List (Idn × HldL)} {x : Idn} {L : HldL} (h : alGet B x = some L) : (B.map fun q => (⟨q.1, q.2⟩ : Load)).find? (fun b => decide (b.rep = x)) = some ⟨x, L⟩ := by
  induction B with
  | nil => cases h
  | cons q r ih =>
    rw [alGet_cons] at h
    rw [List.map_cons, List.find?_cons]
    by_cases e : q.1 = x
    · rw [if_pos e] at h
      injection h with h
      simp [e, h]
    · rw [if_neg e] at h
      simp only [e, decide_false]
      exact ih h
theorem NodeOk.fsS {P : PNode} (h : NodeOk P) : (filesN P).Pairwise (fun a b => bytesBefore a.name b.name = true) := by
  unfold filesN
  rw [List.pairwise_map]
  refine h.fsrt.imp_of_mem fun {a b} ha hb hab => ?_
  obtain ⟨s, _, _, e, _⟩ := h.file a.1 a.2 (alGet_of_mem strEmb h.fsrt ha)
  obtain ⟨s', _, _, e', _⟩ := h.file b.1 b.2 (alGet_of_mem strEmb h.fsrt hb)
  rw [e, e']; exact hab
theorem NodeOk.there {P : PNode} (h : NodeOk P) : ∀ r ∈ filesN P, (rcpFault r).1 = 0 ∧ ∃ b, (loadsN P).find? (fun b => decide (b.rep = repOf r.ids)) = some b ∧ r.ids.any (fun x => lacks x b.l) = false := by
  intro r hr
  obtain ⟨q, hq, rfl⟩ := List.mem_map.1 hr
  obtain ⟨s, hn, hs, e, L, hL, hp⟩ := h.file q.1 q.2 (alGet_of_mem strEmb h.fsrt hq)
  refine ⟨by rw [e, rcpFault_of hn hs], ⟨repR q.2, L⟩, find_loads hL, ?_⟩
  rw [List.any_eq_false]
  intro x hx
  rw [e] at hx
  obtain ⟨p, hpp, rfl⟩ := List.mem_map.1 (show x ∈ idsOf s from hx)
  obtain ⟨o, ho, _⟩ := hp p hpp
  obtain ⟨hm, hid⟩ := getB_mem ho
  unfold lacks
  have : (L.any fun h => decide (h.id = idOf p)) = true := List.any_eq_true.2 ⟨o, hm, by simp [hid]⟩
  rw [this]; simp
theorem NodeOk.lsS {P : PNode} (h : NodeOk P) : (loadsN P).Pairwise (fun a b => lesser a.rep b.rep = true) := by
  unfold loadsN
  rw [List.pairwise_map]
  exact h.bsrt
theorem NodeOk.binS {P : PNode} (h : NodeOk P) {q : Idn × HldL} (hq : q ∈ P.bins) : nS (filesN P) q.1 ≠ 0 ∧ SrtB q.2 ∧ ∀ o ∈ q.2, idOf o.text = o.id ∧ o.uses = useS (filesN P) q.1 o.id := by
  obtain ⟨_, ⟨n, _, hok⟩, _, hu, k, r, hk, hr⟩ := h.bin q.1 q.2 (alGet_of_mem idEmb h.bsrt hq)
  refine ⟨?_, hok.srt, fun o ho => ⟨(hok.all o ho).id.symm, by rw [useS_files, ← hu, usesB_some (getB_of_mem hok.srt ho)]⟩⟩
  have hm : r ∈ (filesN P).filter fun r => decide (repOf r.ids = q.1) := List.mem_filter.2 ⟨List.mem_map_of_mem (alGet_mem hk), decide_eq_true hr⟩
  have := List.length_pos_of_mem hm
  unfold nS; omega
theorem NodeOk.ones {P : PNode} (h : NodeOk P) : ∀ b ∈ loadsN P, oneS (filesN P) b.rep b.l = 0 := by
  intro b hb
  obtain ⟨q, hq, rfl⟩ := List.mem_map.1 hb
  obtain ⟨hn, hs, ho⟩ := h.binS hq
  show oneS (filesN P) q.1 q.2 = 0
  unfold oneS
  rw [if_neg hn]
  exact oneL_ok hs ho (fun p hp => by cases hp)
theorem checkS_files {fs : List Rcp} {ls : List Load} (hl : fs.length ≤ 30) (hs : fs.Pairwise (fun a b => bytesBefore a.name b.name = true)) (ht : ∀ r ∈ fs, (rcpFault r).1 = 0 ∧ thereS r ls = 0) : checkS fs ls = loadsL fs none 0 ls := by
  unfold checkS
  rw [if_neg (by omega), filesL_ok hs (fun p hp => by cases hp) ht, if_neg (by decide)]
theorem NodeOk.flen30 {P : PNode} (h : NodeOk P) : (filesN P).length ≤ 30 := by unfold filesN; rw [List.length_map]; exact h.flen
theorem find_set {x : Idn} {b' : Load} : ∀ {ls : List Load} {i : Nat} (hi : i < ls.length), b'.rep = ls[i].rep → (∀ y, lacks y b'.l = lacks y ls[i].l) →
    (∀ b, ls.find? (fun b => decide (b.rep = x)) = some b → ∃ c, (ls.set i b').find? (fun b => decide (b.rep = x)) = some c ∧ ∀ y, lacks y c.l = lacks y b.l)
  | [], _, hi, _, _ => absurd hi (by simp)
  | a :: t, 0, _, e, el => fun b hb => by
    have e : b'.rep = a.rep := e
    have el : ∀ y, lacks y b'.l = lacks y a.l := el
    rw [List.set_cons_zero]
    rw [List.find?_cons] at hb ⊢
    rw [e]
    by_cases hx : a.rep = x
    · simp only [hx, decide_true] at hb ⊢
      injection hb with hb
      subst hb
      exact ⟨b', rfl, el⟩
    · simp only [hx, decide_false] at hb ⊢
      exact ⟨b, hb, fun _ => rfl⟩
  | a :: t, i + 1, hi, e, el => fun b hb => by
    rw [List.set_cons_succ]
    rw [List.find?_cons] at hb ⊢
    by_cases hx : a.rep = x
    · simp only [hx, decide_true] at hb ⊢
      injection hb with hb
      subst hb
      exact ⟨a, rfl, fun _ => rfl⟩
    · simp only [hx, decide_false] at hb ⊢
      exact find_set (ls := t) (i := i) (by simpa using hi) e el b hb
theorem loadsL_at {fs : List Rcp} {b' : Load} {c : Int} (hc : c ≠ 0) : ∀ {l : List Load} {q : Option Load} {j i : Nat} (hi : i < l.length), l.Pairwise (fun a b => lesser a.rep b.rep = true) → (∀ p, q = some p → ∀ b ∈ l, lesser p.rep b.rep = true) → (∀ b ∈ l, oneS fs b.rep b.l = 0) → b'.rep = l[i].rep → oneS fs b'.rep b'.l = c → loadsL fs q j (l.set i b') = (c, ((j + i : Nat) : Int))
  | [], _, _, _, hi, _, _, _, _, _ => absurd hi (by simp)
  | b :: t, q, j, 0, _, hs, hq, ha, e, ho => by
    have e : b'.rep = b.rep := e
    rw [List.set_cons_zero]
    have hl : loadS fs q b' = c := by
      cases q with
      | none => unfold loadS; rw [if_neg (by simp)]; exact ho
      | some p => unfold loadS; rw [if_neg (by rw [e]; simp [hq p rfl b List.mem_cons_self])]; exact ho
    unfold loadsL
    rw [hl, if_pos hc]; rfl
  | b :: t, q, j, i + 1, hi, hs, hq, ha, e, ho => by
    obtain ⟨h1, h2⟩ := List.pairwise_cons.1 hs
    rw [List.set_cons_succ]
    have e0 : loadS fs q b = 0 := loadS_ok (fun p hp => hq p hp b List.mem_cons_self) (ha b List.mem_cons_self)
    unfold loadsL
    rw [if_neg (by simp [e0]), loadsL_at hc (l := t) (q := some b) (j := j + 1) (i := i) (by simpa using hi) h2 (fun p hp z hz => by injection hp with hp; subst hp; exact h1 z hz) (fun z hz => ha z (List.mem_cons_of_mem _ hz)) e ho]
    congr 2; omega
/-- .. and with one more use told of the first piece of a bin it is not -/
theorem NodeOk.more {P : PNode} (h : NodeOk P) {i : Nat} (hi : i < P.bins.length) {o : Hld} {r : HldL} (e : P.bins[i].2 = o :: r) :
    checkS (filesN P) ((loadsN P).set i ⟨P.bins[i].1, ⟨o.id, o.uses + 1, o.text⟩ :: r⟩) = (11, (i : Int)) := by
  have hi' : i < (loadsN P).length := by unfold loadsN; rw [List.length_map]; exact hi
  have hg : (loadsN P)[i] = ⟨P.bins[i].1, o :: r⟩ := by
    have : (loadsN P)[i] = ⟨P.bins[i].1, P.bins[i].2⟩ := List.getElem_map (fun q : Idn × HldL => (⟨q.1, q.2⟩ : Load))
    rw [this, e]
  have hlk : ∀ y, lacks y (⟨o.id, o.uses + 1, o.text⟩ :: r) = lacks y (o :: r) := fun y => rfl
  obtain ⟨hn, _, ho⟩ := h.binS (List.getElem_mem hi)
  have ho' := ho o (by rw [e]; exact List.mem_cons_self)
  rw [checkS_files h.flen30 h.fsS (fun q hq => by
    obtain ⟨h1, b, h2, h3⟩ := h.there q hq
    obtain ⟨c, hc, hcl⟩ := find_set (b' := ⟨P.bins[i].1, ⟨o.id, o.uses + 1, o.text⟩ :: r⟩) hi' (by rw [hg]) (fun y => by rw [hg]; exact hlk y) b h2
    exact ⟨h1, by rw [thereS_some hc, if_neg (by rw [show (fun x => lacks x c.l) = (fun x => lacks x b.l) from funext hcl]; simp [h3])]⟩)]
  rw [loadsL_at (c := 11) (by decide) hi' h.lsS (fun p hp => by cases hp) h.ones (by rw [hg]) ?_]
  · simp
  · show oneS (filesN P) P.bins[i].1 (⟨o.id, o.uses + 1, o.text⟩ :: r) = 11
    unfold oneS
    rw [if_neg hn]
    unfold oneL
    have hm : markB none ⟨o.id, o.uses + 1, o.text⟩ = 0 := markB_first ho'.1
    rw [if_neg (by rw [hm]; simp), if_pos (by show o.uses + 1 ≠ useS (filesN P) P.bins[i].1 o.id; rw [← ho'.2]; omega)]
/-! ### counting -/
end Go.Proofs.YtpanoplcamdnkaaGreatDoor

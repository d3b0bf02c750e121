/- Plain words: a node: files by names, bins by reps; putting, getting, dropping, sweeping; what a node always is. No program in sight. No conditions. -/
import Derived.Test.YtpanoplcamdnkaaGreatDoorPlainB
import Derived.Test.YtpanoplcamdnkaaGreatDoorAl
namespace Go.Proofs.YtpanoplcamdnkaaGreatDoor
open Go.Maps Go.Lib

/-! ### uses of a bin -/
def usesB (L : HldL) (x : Idn) : Int := ((getB L x).map Hld.uses).getD 0
theorem usesB_some {L : HldL} {x : Idn} {h : Hld} (e : getB L x = some h) : usesB L x = h.uses := by unfold usesB; rw [e]; rfl
theorem usesB_none {L : HldL} {x : Idn} (e : getB L x = none) : usesB L x = 0 := by unfold usesB; rw [e]; rfl
theorem usesB_set {L : HldL} (hs : SrtB L) (h : Hld) (x : Idn) : usesB (setB h L) x = if h.id = x then h.uses else usesB L x := by
  unfold usesB
  rw [getB_set hs]
  split <;> rfl
theorem putB_ok {s : Bytes} {L : HldL} (h : (putB s L).2.2.2 = 0) : putB s L = (setB ⟨idOf s, usesB L (idOf s) + 1, s⟩ L, idOf s, (getB L (idOf s)).isNone, 0) ∧ rightB s = true ∧ (∀ o, getB L (idOf s) = some o → o.text = s) ∧ (getB L (idOf s) = none → L.length < 250) := by
  unfold putB at h ⊢
  split at h
  · exact absurd (show (2 : Int) = 0 from h) (by decide)
  · next hr =>
    rw [if_neg hr]
    split at h
    · next o hg =>
      split at h
      · exact absurd (show (10 : Int) = 0 from h) (by decide)
      · next ht =>
        rw [if_neg ht, usesB_some hg, hg]
        exact ⟨rfl, by simpa using hr, fun o' e => by injection e with e; subst e; exact Decidable.not_not.1 ht, fun e => by cases e⟩
    · next hg =>
      split at h
      · exact absurd (show (7 : Int) = 0 from h) (by decide)
      · next hl =>
        rw [if_neg hl, usesB_none hg, hg]
        exact ⟨rfl, by simpa using hr, fun o' e => by (cases e), fun _ => by omega⟩
/-- pieces put one behind the other: the new bin, how many bytes are new, an error's number -/
def putAll : List Bytes → HldL → Int → HldL × Int × Int
  | [], L, f => (L, f, 0)
  | p :: r, L, f => if (putB p L).2.2.2 = 0 then putAll r (putB p L).1 (f + if (putB p L).2.2.1 then (p.length : Int) else 0) else ((putB p L).1, 0, (putB p L).2.2.2)
theorem putAll_cons {p : Bytes} {r : List Bytes} {L : HldL} {f : Int} (h : (putAll (p :: r) L f).2.2 = 0) : (putB p L).2.2.2 = 0 ∧ putAll (p :: r) L f = putAll r (putB p L).1 (f + if (putB p L).2.2.1 then (p.length : Int) else 0) := by
  have e : putAll (p :: r) L f = if (putB p L).2.2.2 = 0 then putAll r (putB p L).1 (f + if (putB p L).2.2.1 then (p.length : Int) else 0) else ((putB p L).1, 0, (putB p L).2.2.2) := by rw [putAll]
  rw [e] at h ⊢
  by_cases h0 : (putB p L).2.2.2 = 0
  · exact ⟨h0, by rw [if_pos h0]⟩
  · rw [if_neg h0] at h; exact absurd h h0
/-- what stays of a bin in which pieces were put -/
structure PutSt (ps : List Bytes) (L L' : HldL) : Prop where
  uses : ∀ x, usesB L' x = usesB L x + ((ps.map idOf).count x : Int)
  has : ∀ p ∈ ps, ∃ h, getB L' (idOf p) = some h ∧ h.text = p
  kept : ∀ x h, getB L x = some h → ∃ h', getB L' x = some h' ∧ h'.text = h.text
  ok : ∀ n : Int, 0 ≤ n → BinOk n L → BinOk (n + ps.length) L'
  len : L.length ≤ 250 → L'.length ≤ 250
theorem putAll_st : ∀ (ps : List Bytes) (L : HldL) (f : Int), SrtB L → (putAll ps L f).2.2 = 0 → PutSt ps L (putAll ps L f).1
  | [], L, f, _, _ => ⟨fun x => by simp [putAll], fun p hp => (by cases hp), fun x h e => ⟨h, e, rfl⟩, fun n _ hb => by simpa [putAll] using hb, fun h => h⟩
  | p :: r, L, f, hs, h => by
    obtain ⟨h0, h1⟩ := putAll_cons h
    rw [h1] at h ⊢
    obtain ⟨e, hr, ht, hn⟩ := putB_ok h0
    have hs2 : SrtB (putB p L).1 := by rw [e]; exact srtB_set hs _
    have ih := putAll_st r (putB p L).1 _ hs2 h
    generalize (putAll r (putB p L).1 (f + if (putB p L).2.2.1 then (p.length : Int) else 0)).1 = L' at ih ⊢
    have e1 : (putB p L).1 = setB ⟨idOf p, usesB L (idOf p) + 1, p⟩ L := by rw [e]
    have hget : ∀ x, getB (putB p L).1 x = if idOf p = x then some ⟨idOf p, usesB L (idOf p) + 1, p⟩ else getB L x := fun x => by rw [e1, getB_set hs]
    refine ⟨fun x => ?_, fun q hq => ?_, fun x o hx => ?_, fun n hn0 hb => ?_, fun hl => ih.len (length_put hs hl)⟩
    · rw [ih.uses, e1, usesB_set hs, List.map_cons, List.count_cons]
      by_cases hx : idOf p = x
      · subst hx; simp; omega
      · simp [hx]
    · rcases List.mem_cons.1 hq with rfl | hq
      · obtain ⟨o, ho, ht'⟩ := ih.kept (idOf q) _ (by rw [hget, if_pos rfl])
        exact ⟨o, ho, ht'⟩
      · exact ih.has q hq
    · by_cases hpx : idOf p = x
      · obtain ⟨o', ho', ht'⟩ := ih.kept x ⟨idOf p, usesB L (idOf p) + 1, p⟩ (by rw [hget, if_pos hpx])
        refine ⟨o', ho', ht'.trans ?_⟩
        subst hpx
        exact (ht o hx).symm
      · exact ih.kept x o (by rw [hget, if_neg hpx]; exact hx)
    · have := ih.ok (n + 1) (by omega) (binOk_put hn0 hb p)
      rw [List.length_cons]
      exact this.mono (by omega)
theorem putAll_old : ∀ (ps : List Bytes) (L : HldL) (f : Int), SrtB L → (∀ p ∈ ps, rightB p = true ∧ ∃ h, getB L (idOf p) = some h ∧ h.text = p) → (putAll ps L f).2 = (f, 0)
  | [], L, f, _, _ => rfl
  | p :: r, L, f, hs, h => by
    obtain ⟨hr, o, ho, ht⟩ := h p List.mem_cons_self
    have e : putB p L = (setB ⟨idOf p, o.uses + 1, p⟩ L, idOf p, false, 0) := by
      unfold putB
      rw [if_neg (by rw [hr]; decide), ho]
      simp only
      rw [if_neg (by simp [ht])]
    unfold putAll
    rw [e]
    simp only [if_true, Bool.false_eq_true, if_false, Int.add_zero]
    refine putAll_old r _ f (srtB_set hs _) fun q hq => ?_
    obtain ⟨hrq, o', ho', ht'⟩ := h q (List.mem_cons_of_mem _ hq)
    refine ⟨hrq, ?_⟩
    rw [getB_set hs]
    by_cases he : idOf p = idOf q
    · refine ⟨_, by rw [if_pos he], ?_⟩
      rw [he, ho'] at ho
      injection ho with ho
      subst ho
      exact ht.symm.trans ht'
    · exact ⟨o', by rw [if_neg he]; exact ho', ht'⟩
theorem putAll_code : ∀ (ps : List Bytes) (L : HldL) (f : Int), (putAll ps L f).2.2 = 0 ∨ (putAll ps L f).2.2 = 2 ∨ (putAll ps L f).2.2 = 7 ∨ (putAll ps L f).2.2 = 10
  | [], _, _ => .inl rfl
  | p :: r, L, f => by
    unfold putAll
    split
    · exact putAll_code r _ _
    · show (putB p L).2.2.2 = 0 ∨ (putB p L).2.2.2 = 2 ∨ (putB p L).2.2.2 = 7 ∨ (putB p L).2.2.2 = 10
      unfold putB
      split
      · simp
      · split
        · split <;> simp
        · split <;> simp
theorem putAll_fresh : ∀ (ps : List Bytes) (L : HldL) (f : Int), 0 ≤ f → 0 ≤ (putAll ps L f).2.1 ∧ (putAll ps L f).2.1 ≤ f + (ps.flatten.length : Int)
  | [], _, f, h => by simp [putAll, h]
  | p :: r, L, f, h => by
    unfold putAll
    rw [List.flatten_cons, List.length_append]
    split
    · have := putAll_fresh r (putB p L).1 (f + if (putB p L).2.2.1 then (p.length : Int) else 0) (by split <;> omega)
      refine ⟨this.1, Int.le_trans this.2 ?_⟩
      split <;> omega
    · show (0 : Int) ≤ 0 ∧ (0 : Int) ≤ _
      omega
/-- uses dropped one behind the other -/
def dropAll : IdL → HldL → HldL × Int
  | [], L => (L, 0)
  | x :: r, L => if (dropB x L).2 = 0 then dropAll r (dropB x L).1 else dropB x L
structure DropSt (ids : IdL) (L L' : HldL) : Prop where
  uses : ∀ x, usesB L' x = usesB L x - (ids.count x : Int)
  kept : ∀ x, (getB L' x).map Hld.text = (getB L x).map Hld.text
  ok : ∀ n : Int, BinOk n L → BinOk n L'
  len : L'.length = L.length
theorem dropB_used {x : Idn} {L : HldL} (h : 0 < usesB L x) : ∃ o, getB L x = some o ∧ dropB x L = (setB ⟨o.id, o.uses - 1, o.text⟩ L, 0) ∧ o.uses ≠ 0 := by
  cases hg : getB L x with
  | none => rw [usesB_none hg] at h; omega
  | some o =>
    rw [usesB_some hg] at h
    refine ⟨o, rfl, ?_, by omega⟩
    unfold dropB
    rw [hg]
    simp only
    rw [if_neg (by omega)]
theorem dropAll_st : ∀ (ids : IdL) (L : HldL), SrtB L → (∀ x, (ids.count x : Int) ≤ usesB L x) → (dropAll ids L).2 = 0 ∧ DropSt ids L (dropAll ids L).1
  | [], L, _, _ => ⟨rfl, fun x => by simp [dropAll], fun _ => rfl, fun _ h => h, rfl⟩
  | y :: r, L, hs, h => by
    have hy := h y
    rw [List.count_cons] at hy
    simp only [beq_self_eq_true, if_true] at hy
    obtain ⟨o, ho, e, _⟩ := dropB_used (x := y) (L := L) (by omega)
    have hid := (getB_mem ho).2
    have e1 : (dropB y L).1 = setB ⟨o.id, o.uses - 1, o.text⟩ L := by rw [e]
    have hu : ∀ x, usesB (dropB y L).1 x = usesB L x - (if y = x then 1 else 0) := fun x => by
      rw [e1, usesB_set hs]
      show (if o.id = x then o.uses - 1 else usesB L x) = _
      rw [hid]
      by_cases hx : y = x
      · subst hx; simp [usesB_some ho]
      · simp [hx]
    have ih := dropAll_st r (dropB y L).1 (by rw [e1]; exact srtB_set hs _) (fun x => by
      have := h x
      rw [List.count_cons] at this
      rw [hu]
      by_cases hx : y = x
      · subst hx; simp at this ⊢; omega
      · simp [hx] at this ⊢; omega)
    unfold dropAll
    rw [if_pos (by rw [e])]
    refine ⟨ih.1, fun x => ?_, fun x => ?_, fun n hb => ih.2.ok n (binOk_drop hb y), by rw [ih.2.len, length_drop hs]⟩
    · rw [ih.2.uses, hu, List.count_cons]
      by_cases hx : y = x
      · subst hx; simp; omega
      · simp [hx]
    · rw [ih.2.kept, e1, getB_set hs]
      show ((if o.id = x then some _ else getB L x).map Hld.text) = _
      rw [hid]
      by_cases hx : y = x
      · subst hx; rw [if_pos rfl, ho]; rfl
      · rw [if_neg hx]
theorem getB_sweep {L : HldL} (hs : SrtB L) (x : Idn) : getB (sweepB L) x = match getB L x with | some h => if h.uses = 0 then none else some h | none => none := by
  induction L with
  | nil => rfl
  | cons y r ih =>
    obtain ⟨h1, h2⟩ := srtB_cons.1 hs
    have e3 : getB (y :: r) x = if y.id = x then some y else getB r x := by unfold getB; rw [List.find?_cons]; by_cases hy : y.id = x <;> simp [hy]
    have e4 : getB (sweepB (y :: r)) x = if usedB y = true then (if y.id = x then some y else getB (sweepB r) x) else getB (sweepB r) x := by
      unfold sweepB
      rw [List.filter_cons]
      split
      · unfold getB; rw [List.find?_cons]; by_cases hy : y.id = x <;> simp [hy]
      · rfl
    rw [e3, e4, ih h2]
    by_cases hy : y.id = x
    · simp only [hy, if_true]
      by_cases hu : y.uses = 0
      · have : usedB y = false := by unfold usedB; simp [hu]
        simp only [this, Bool.false_eq_true, if_false, hu, if_true]
        have hn : getB r x = none := getB_none.2 fun z hz e => by
          have := h1 z hz
          rw [hy, e, lesser_irrefl] at this; cases this
        rw [hn]
      · have : usedB y = true := by unfold usedB; simp [hu]
        simp only [this, if_true, hu, if_false]
    · simp only [hy, if_false]
      split <;> rfl
theorem usesB_sweep {L : HldL} (hs : SrtB L) (x : Idn) : usesB (sweepB L) x = usesB L x := by
  unfold usesB
  rw [getB_sweep hs]
  cases hg : getB L x with
  | none => rfl
  | some h =>
    simp only
    by_cases hu : h.uses = 0
    · rw [if_pos hu]; simp [hu]
    · rw [if_neg hu]
/-! ### keys -/
def strLit (s : Bytes) : Lit := .string s
theorem bytesBefore_irr : ∀ x : Bytes, bytesBefore x x = false
  | [] => rfl
  | c :: r => by
    show (decide (c < c) || (c == c && bytesBefore r r)) = false
    rw [bytesBefore_irr r, Bool.and_false, Bool.or_false, decide_eq_false_iff_not, UInt8.lt_iff_toNat_lt]
    omega
theorem bytesBefore_cons {a b : UInt8} {r s : Bytes} : bytesBefore (a :: r) (b :: s) = true ↔ a.toNat < b.toNat ∨ (a = b ∧ bytesBefore r s = true) := by
  show (decide (a < b) || (a == b && bytesBefore r s)) = true ↔ _
  rw [Bool.or_eq_true, decide_eq_true_iff, UInt8.lt_iff_toNat_lt, Bool.and_eq_true, beq_iff_eq]
theorem bytesBefore_trans : ∀ {x y z : Bytes}, bytesBefore x y = true → bytesBefore y z = true → bytesBefore x z = true
  | [], [], _, h, _ => by cases h
  | [], _ :: _, [], _, h => by cases h
  | [], _ :: _, _ :: _, _, _ => rfl
  | _ :: _, [], _, h, _ => by cases h
  | _ :: _, _ :: _, [], _, h => by cases h
  | a :: r, b :: s, c :: t, h1, h2 => by
    rw [bytesBefore_cons] at h1 h2 ⊢
    rcases h1 with h1 | ⟨rfl, h1⟩
    · rcases h2 with h2 | ⟨rfl, h2⟩
      · exact .inl (by omega)
      · exact .inl h1
    · rcases h2 with h2 | ⟨rfl, h2⟩
      · exact .inl h2
      · exact .inr ⟨rfl, bytesBefore_trans h1 h2⟩
theorem bytesBefore_total : ∀ {x y : Bytes}, x ≠ y → bytesBefore x y = true ∨ bytesBefore y x = true
  | [], [], h => absurd rfl h
  | [], _ :: _, _ => .inl rfl
  | _ :: _, [], _ => .inr rfl
  | a :: r, b :: s, h => by
    rw [bytesBefore_cons, bytesBefore_cons]
    by_cases hab : a = b
    · subst hab
      rcases bytesBefore_total (x := r) (y := s) (fun e => h (by rw [e])) with h1 | h1
      · exact .inl (.inr ⟨rfl, h1⟩)
      · exact .inr (.inr ⟨rfl, h1⟩)
    · have : a.toNat ≠ b.toNat := fun e => hab (UInt8.toNat_inj.1 e)
      omega
def StrOk (b : Bytes) : Prop := b.length ≤ maxLen
theorem strEmb : KeyEmb strLit bytesBefore StrOk StrOk where
  wide := fun h => h
  same := fun {x y} _ _ => by show (x == y) = _; rw [Bool.eq_iff_iff, beq_iff_eq, decide_eq_true_iff]
  before := fun _ _ => rfl
  irr := bytesBefore_irr
  trans := bytesBefore_trans
  total := bytesBefore_total
def IdOk0 (x : Idn) : Prop := IdOk x ∧ 0 ≤ x.2
theorem idEmb : KeyEmb idLit lesser IdOk0 IdOk where
  wide := fun h => h.1
  same := fun hx hy => idLit_same hx hy
  before := fun hx hy => idLit_before hx.1 hy.1 hx.2 hy.2
  irr := lesser_irrefl
  trans := lesser_trans
  total := lesser_total
/-! ### sums over sorted lists -/
section
variable {K V : Type} [DecidableEq K] {lit : K → Lit} {lt : K → K → Bool} {ok okw : K → Prop}
theorem alPut_sum (g : K × V → Int) (k : K) (v : V) : ∀ {L : List (K × V)}, alGet L k = none → ((alPut lt k v L).map g).sum = g (k, v) + (L.map g).sum
  | [], _ => by simp [alPut]
  | y :: r, h => by
    have hne := alGet_none.1 h y List.mem_cons_self
    have hr : alGet r k = none := alGet_none.2 fun z hz => alGet_none.1 h z (List.mem_cons_of_mem _ hz)
    unfold alPut
    rw [if_neg hne]
    split
    · rw [List.map_cons, List.sum_cons]
    · rw [List.map_cons, List.sum_cons, alPut_sum g k v hr, List.map_cons, List.sum_cons]; omega
theorem alDel_none {k : K} : ∀ {L : List (K × V)}, alGet L k = none → alDel k L = L := by
  intro L h
  unfold alDel
  rw [List.filter_eq_self]
  intro p hp
  have := alGet_none.1 h p hp
  simp [this]
theorem alDel_sum (E : KeyEmb lit lt ok okw) (g : K × V → Int) {k : K} {v : V} : ∀ {L : List (K × V)}, AlSrt lt L → alGet L k = some v → (L.map g).sum = g (k, v) + ((alDel k L).map g).sum
  | [], _, h => by cases h
  | y :: r, hs, h => by
    obtain ⟨h1, h2⟩ := alSrt_cons.1 hs
    rw [alGet_cons] at h
    have e : alDel k (y :: r) = if y.1 = k then alDel k r else y :: alDel k r := by
      unfold alDel
      by_cases hy : y.1 = k <;> simp [hy]
    by_cases hy : y.1 = k
    · rw [if_pos hy] at h
      injection h with h
      have hn : alGet r k = none := alGet_none.2 fun z hz e2 => E.ne (h1 z hz) (hy.trans e2.symm)
      rw [e, if_pos hy, alDel_none hn, List.map_cons, List.sum_cons]
      have : y = (k, v) := Prod.ext hy h
      rw [this]
    · rw [if_neg hy] at h
      rw [e, if_neg hy, List.map_cons, List.sum_cons, alDel_sum E g h2 h, List.map_cons, List.sum_cons]; omega
theorem alGet_of_mem (E : KeyEmb lit lt ok okw) {L : List (K × V)} (hs : AlSrt lt L) {q : K × V} (hq : q ∈ L) : alGet L q.1 = some q.2 := by
  induction L with
  | nil => cases hq
  | cons y r ih =>
    obtain ⟨h1, h2⟩ := alSrt_cons.1 hs
    rw [alGet_cons]
    rcases List.mem_cons.1 hq with rfl | hq
    · rw [if_pos rfl]
    · rw [if_neg (E.ne (h1 q hq)), ih h2 hq]
end
/-! ### a node -/
structure PNode where
  files : List (Bytes × Rcp)
  bins : List (Idn × HldL)
def repR (r : Rcp) : Idn := repOf r.ids
/-- how often a piece is used by files of a rep -/
def useN (F : List (Bytes × Rcp)) (x y : Idn) : Int := (F.map fun q => if repR q.2 = x then (q.2.ids.count y : Int) else 0).sum
def binN (P : PNode) (x : Idn) : HldL := (alGet P.bins x).getD []
/-- the new node, how many bytes are new, an error's number -/
def putN (name s : Bytes) (P : PNode) : PNode × Int × Int :=
  if isName name = false then (P, 0, 4) else if 4000 < s.length then (P, 0, 2) else if (alGet P.files name).isSome = true then (P, 0, 6) else if 30 ≤ P.files.length then (P, 0, 7) else
  if (putAll (pieces s) (binN P (repOf (idsOf s))) 0).2.2 = 0 then
    (⟨alPut bytesBefore name (rcpOf name s) P.files, alPut lesser (repOf (idsOf s)) (putAll (pieces s) (binN P (repOf (idsOf s))) 0).1 P.bins⟩, (putAll (pieces s) (binN P (repOf (idsOf s))) 0).2.1, 0)
  else (P, 0, (putAll (pieces s) (binN P (repOf (idsOf s))) 0).2.2)
def textB (L : HldL) (x : Idn) : Bytes := ((getB L x).map Hld.text).getD []
def getN (name : Bytes) (P : PNode) : Bytes × Int := match alGet P.files name with
  | none => ([], 5)
  | some r => ((r.ids.map (textB (binN P (repR r)))).flatten, 0)
/-- a rep without a file has no bin -/
def tidyN (F : List (Bytes × Rcp)) (x : Idn) (L : HldL) (B : List (Idn × HldL)) : List (Idn × HldL) := if F.any (fun q => decide (repR q.2 = x)) = true then alPut lesser x L B else alDel x B
def dropN (name : Bytes) (P : PNode) : PNode × Int := match alGet P.files name with
  | none => (P, 5)
  | some r => (⟨alDel name P.files, tidyN (alDel name P.files) (repR r) (dropAll r.ids (binN P (repR r))).1 P.bins⟩, 0)
def sweepN (P : PNode) : PNode := ⟨P.files, alMap sweepB P.bins⟩
def sizeN (P : PNode) : Int := (P.bins.map fun q => sizeB q.2).sum
/-- what a node always is -/
structure NodeOk (P : PNode) : Prop where
  fsrt : AlSrt bytesBefore P.files
  bsrt : AlSrt lesser P.bins
  flen : P.files.length ≤ 30
  file : ∀ k r, alGet P.files k = some r → ∃ s, isName k = true ∧ s.length ≤ 4000 ∧ r = rcpOf k s ∧ ∃ L, alGet P.bins (repR r) = some L ∧ ∀ p ∈ pieces s, ∃ h, getB L (idOf p) = some h ∧ h.text = p
  bin : ∀ x L, alGet P.bins x = some L → IdOk0 x ∧ (∃ n : Int, 0 ≤ n ∧ BinOk n L) ∧ L.length ≤ 250 ∧ (∀ y, usesB L y = useN P.files x y) ∧ ∃ k r, alGet P.files k = some r ∧ repR r = x
theorem NodeOk.nil : NodeOk ⟨[], []⟩ := ⟨alSrt_nil, alSrt_nil, by simp, fun _ _ h => by (cases h), fun _ _ h => by (cases h)⟩
theorem useN_none {F : List (Bytes × Rcp)} {x : Idn} (h : ∀ q ∈ F, repR q.2 ≠ x) (y : Idn) : useN F x y = 0 := by
  unfold useN
  induction F with
  | nil => rfl
  | cons q r ih => rw [List.map_cons, List.sum_cons, if_neg (h q List.mem_cons_self), ih (fun z hz => h z (List.mem_cons_of_mem _ hz))]; rfl
theorem useN_nonneg (F : List (Bytes × Rcp)) (x y : Idn) : 0 ≤ useN F x y := by
  unfold useN
  induction F with
  | nil => exact Int.le_refl _
  | cons q r ih =>
    rw [List.map_cons, List.sum_cons]
    split <;> omega
theorem useN_le {F : List (Bytes × Rcp)} (h : ∀ q ∈ F, q.2.ids.length ≤ 250) (x y : Idn) : useN F x y ≤ 250 * F.length := by
  unfold useN
  induction F with
  | nil => exact Int.le_refl _
  | cons q r ih =>
    have h1 := ih (fun z hz => h z (List.mem_cons_of_mem _ hz))
    have h2 := h q List.mem_cons_self
    have h3 : q.2.ids.count y ≤ q.2.ids.length := List.count_le_length
    rw [List.map_cons, List.sum_cons, List.length_cons]
    split <;> omega
theorem useN_put {F : List (Bytes × Rcp)} {k : Bytes} (hg : alGet F k = none) (r : Rcp) (x y : Idn) : useN (alPut bytesBefore k r F) x y = (if repR r = x then (r.ids.count y : Int) else 0) + useN F x y :=
  alPut_sum _ k r hg
theorem useN_del {F : List (Bytes × Rcp)} (hs : AlSrt bytesBefore F) {k : Bytes} {r : Rcp} (hg : alGet F k = some r) (x y : Idn) : useN F x y = (if repR r = x then (r.ids.count y : Int) else 0) + useN (alDel k F) x y :=
  alDel_sum strEmb _ hs hg
theorem idsOf_le {s : Bytes} (h : s.length ≤ 4000) : (idsOf s).length ≤ 250 := by
  have := pieces_len s
  unfold idsOf
  rw [List.length_map]; omega
theorem piece_ok {s p : Bytes} (hp : p ∈ pieces s) : rightB p = true := by
  have h2 := pieces_max s p hp
  have : 0 < p.length := List.length_pos_iff.2 (pieces_ne s p hp)
  exact rightB_iff.2 ⟨by omega, h2⟩
theorem idOf_ok0 {p : Bytes} (h : p.length ≤ 64) : IdOk0 (idOf p) := ⟨⟨prOf_lt _, by show (-9223372036854775808 : Int) ≤ ((p.length : Nat) : Int); omega, by show ((p.length : Nat) : Int) ≤ _; omega⟩, by show (0 : Int) ≤ ((p.length : Nat) : Int); omega⟩
theorem rep_ok0 (s : Bytes) : IdOk0 (repOf (idsOf s)) := by
  by_cases h : idsOf s = []
  · rw [h]; exact idOf_ok0 (by decide)
  · have := repOf_mem h
    obtain ⟨p, hp, e⟩ := List.mem_map.1 this
    rw [← e]
    exact idOf_ok0 (pieces_max s p hp)
theorem NodeOk.ids {P : PNode} (h : NodeOk P) : ∀ q ∈ P.files, q.2.ids.length ≤ 250 := fun q hq => by
  obtain ⟨s, _, h2, h3, _⟩ := h.file q.1 q.2 (alGet_of_mem strEmb h.fsrt hq)
  rw [h3]; exact idsOf_le h2
theorem getB_of_mem {L : HldL} (hs : SrtB L) {h : Hld} (hm : h ∈ L) : getB L h.id = some h := by
  induction L with
  | nil => cases hm
  | cons y r ih =>
    obtain ⟨h1, h2⟩ := srtB_cons.1 hs
    have e3 : getB (y :: r) h.id = if y.id = h.id then some y else getB r h.id := by unfold getB; rw [List.find?_cons]; by_cases hy : y.id = h.id <;> simp [hy]
    rw [e3]
    rcases List.mem_cons.1 hm with rfl | hm
    · rw [if_pos rfl]
    · rw [if_neg (lesser_ne (h1 h hm)), ih h2 hm]
theorem NodeOk.bin7 {P : PNode} (h : NodeOk P) {x : Idn} {L : HldL} (hg : alGet P.bins x = some L) : BinOk 7500 L := by
  obtain ⟨_, ⟨n, hn0, hb⟩, _, hu, _⟩ := h.bin x L hg
  refine ⟨hb.srt, fun o ho => ?_⟩
  have h1 := hb.all o ho
  have h2 := hu o.id
  rw [usesB_some (getB_of_mem hb.srt ho)] at h2
  have h3 := useN_le h.ids x o.id
  have h4 := h.flen
  exact ⟨h1.id, h1.len, h1.uses.1, by omega⟩
theorem NodeOk.theBin {P : PNode} (h : NodeOk P) (x : Idn) : BinOk 7500 (binN P x) ∧ (binN P x).length ≤ 250 ∧ ∀ y, usesB (binN P x) y = useN P.files x y := by
  unfold binN
  cases hg : alGet P.bins x with
  | some L => exact ⟨h.bin7 hg, (h.bin x L hg).2.2.1, (h.bin x L hg).2.2.2.1⟩
  | none =>
    refine ⟨BinOk.nil _, by simp, fun y => ?_⟩
    rw [useN_none (fun q hq e => ?_)]
    · rfl
    · obtain ⟨s, _, _, _, L, hL, _⟩ := h.file q.1 q.2 (alGet_of_mem strEmb h.fsrt hq)
      rw [e, hg] at hL; cases hL
/-! ### putting -/
theorem NodeOk.put {P : PNode} (h : NodeOk P) (name s : Bytes) : NodeOk (putN name s P).1 := by
  unfold putN
  split
  · exact h
  · next h1 =>
    split
    · exact h
    · next h2 =>
      split
      · exact h
      · next h3 =>
        split
        · exact h
        · next h4 =>
          split
          · next h5 =>
            have hno : alGet P.files name = none := by cases hg : alGet P.files name with | none => rfl | some _ => rw [hg] at h3; exact absurd rfl h3
            obtain ⟨hb, hbl, hbu⟩ := h.theBin (repOf (idsOf s))
            have hst := putAll_st (pieces s) (binN P (repOf (idsOf s))) 0 hb.srt h5
            generalize hL : (putAll (pieces s) (binN P (repOf (idsOf s))) 0).1 = L' at hst ⊢
            have hrep : repR (rcpOf name s) = repOf (idsOf s) := rfl
            have hfs := alSrt_put strEmb h.fsrt name (rcpOf name s)
            refine ⟨hfs, alSrt_put idEmb h.bsrt _ _, ?_, fun k r hg => ?_, fun x L hg => ?_⟩
            · show (alPut bytesBefore name (rcpOf name s) P.files).length ≤ 30
              rw [alPut_length_new hno]; omega
            · show ∃ s', _ ∧ _ ∧ _ ∧ ∃ L, alGet (alPut lesser (repOf (idsOf s)) L' P.bins) (repR r) = some L ∧ _
              have hg : alGet (alPut bytesBefore name (rcpOf name s) P.files) k = some r := hg
              rw [alGet_put] at hg
              split at hg
              · next e =>
                injection hg with hg
                subst hg; subst e
                exact ⟨s, by simpa using h1, by omega, rfl, L', by rw [alGet_put, if_pos hrep.symm], hst.has⟩
              · obtain ⟨s0, a1, a2, a3, L0, a4, a5⟩ := h.file k r hg
                refine ⟨s0, a1, a2, a3, ?_⟩
                rw [alGet_put]
                by_cases e : repOf (idsOf s) = repR r
                · refine ⟨L', by rw [if_pos e], fun p hp => ?_⟩
                  obtain ⟨o, ho, ht⟩ := a5 p hp
                  have hbn : binN P (repOf (idsOf s)) = L0 := by unfold binN; rw [e, a4]; rfl
                  obtain ⟨o', ho', ht'⟩ := hst.kept (idOf p) o (by rw [hbn]; exact ho)
                  exact ⟨o', ho', ht'.trans ht⟩
                · exact ⟨L0, by rw [if_neg e]; exact a4, a5⟩
            · have hg : alGet (alPut lesser (repOf (idsOf s)) L' P.bins) x = some L := hg
              show IdOk0 x ∧ _ ∧ _ ∧ (∀ y, usesB L y = useN (alPut bytesBefore name (rcpOf name s) P.files) x y) ∧ ∃ k r, alGet (alPut bytesBefore name (rcpOf name s) P.files) k = some r ∧ _
              rw [alGet_put] at hg
              split at hg
              · next e =>
                injection hg with hg
                subst hg; subst e
                refine ⟨rep_ok0 s, ⟨7500 + (pieces s).length, by omega, hst.ok 7500 (by decide) hb⟩, hst.len hbl, fun y => ?_, name, rcpOf name s, by rw [alGet_put, if_pos rfl], rfl⟩
                rw [hst.uses, hbu, useN_put hno, hrep, if_pos rfl]
                show _ + ((idsOf s).count y : Int) = ((idsOf s).count y : Int) + _
                omega
              · next e =>
                obtain ⟨a1, a2, a3, a4, k, r, a5, a6⟩ := h.bin x L hg
                refine ⟨a1, a2, a3, fun y => ?_, k, r, ?_, a6⟩
                · rw [a4, useN_put hno, hrep, if_neg e]; omega
                · rw [alGet_put, if_neg (fun e2 => by rw [← e2, hno] at a5; cases a5)]; exact a5
          · exact h
/-! ### dropping -/
theorem NodeOk.drops {P : PNode} (h : NodeOk P) {name : Bytes} {r : Rcp} (hg : alGet P.files name = some r) : (dropAll r.ids (binN P (repR r))).2 = 0 ∧ DropSt r.ids (binN P (repR r)) (dropAll r.ids (binN P (repR r))).1 := by
  obtain ⟨hb, _, hbu⟩ := h.theBin (repR r)
  refine dropAll_st r.ids _ hb.srt fun x => ?_
  rw [hbu, useN_del h.fsrt hg, if_pos rfl]
  have := useN_nonneg (alDel name P.files) (repR r) x
  omega
theorem any_rep {F : List (Bytes × Rcp)} {x : Idn} : F.any (fun q => decide (repR q.2 = x)) = true ↔ ∃ q ∈ F, repR q.2 = x := by simp
theorem alGet_tidy (F : List (Bytes × Rcp)) (x : Idn) (L : HldL) (B : List (Idn × HldL)) (y : Idn) : alGet (tidyN F x L B) y = if x = y then (if F.any (fun q => decide (repR q.2 = x)) = true then some L else none) else alGet B y := by
  unfold tidyN
  split
  · rw [alGet_put]
  · rw [alGet_del]
    by_cases e : x = y
    · rw [if_pos e.symm, if_pos e]
    · rw [if_neg (fun h => e h.symm), if_neg e]
theorem NodeOk.drop {P : PNode} (h : NodeOk P) (name : Bytes) : NodeOk (dropN name P).1 := by
  unfold dropN
  cases hg : alGet P.files name with
  | none => exact h
  | some r =>
    obtain ⟨_, hst⟩ := h.drops hg
    obtain ⟨hb, hbl, hbu⟩ := h.theBin (repR r)
    simp only
    generalize (dropAll r.ids (binN P (repR r))).1 = L' at hst ⊢
    have hdl : ∀ k r', alGet (alDel name P.files) k = some r' → k ≠ name ∧ alGet P.files k = some r' := fun k r' e => by
      rw [alGet_del] at e
      split at e
      · cases e
      · next hne => exact ⟨hne, e⟩
    refine ⟨alSrt_del h.fsrt name, ?_, Nat.le_trans (alDel_length _ _) h.flen, fun k r' hk => ?_, fun x L hx => ?_⟩
    · show AlSrt lesser (tidyN _ _ _ _)
      unfold tidyN
      split
      · exact alSrt_put idEmb h.bsrt _ _
      · exact alSrt_del h.bsrt _
    · show ∃ s, _ ∧ _ ∧ _ ∧ ∃ L, alGet (tidyN (alDel name P.files) (repR r) L' P.bins) (repR r') = some L ∧ _
      obtain ⟨hne, hk'⟩ := hdl k r' hk
      obtain ⟨s, a1, a2, a3, L0, a4, a5⟩ := h.file k r' hk'
      refine ⟨s, a1, a2, a3, ?_⟩
      rw [alGet_tidy]
      by_cases e : repR r = repR r'
      · refine ⟨L', by rw [if_pos e, if_pos (any_rep.2 ⟨(k, r'), alGet_mem hk, e.symm⟩)], fun p hp => ?_⟩
        obtain ⟨o, ho, ht⟩ := a5 p hp
        have hbn : binN P (repR r) = L0 := by unfold binN; rw [e, a4]; rfl
        have := hst.kept (idOf p)
        rw [hbn, ho] at this
        cases hq : getB L' (idOf p) with
        | none => rw [hq] at this; cases this
        | some o' =>
          rw [hq] at this
          injection this with this
          exact ⟨o', rfl, this.trans ht⟩
      · exact ⟨L0, by rw [if_neg e]; exact a4, a5⟩
    · have hx : alGet (tidyN (alDel name P.files) (repR r) L' P.bins) x = some L := hx
      show IdOk0 x ∧ _ ∧ _ ∧ (∀ y, usesB L y = useN (alDel name P.files) x y) ∧ ∃ k r', alGet (alDel name P.files) k = some r' ∧ _
      rw [alGet_tidy] at hx
      split at hx
      · next e =>
        split at hx
        · next hany =>
          injection hx with hx
          subst hx; subst e
          obtain ⟨s, _, _, _, L0, a4, _⟩ := h.file name r hg
          obtain ⟨b1, _⟩ := h.bin _ _ a4
          obtain ⟨q, hq, hqr⟩ := any_rep.1 hany
          refine ⟨b1, ⟨7500, by decide, hst.ok _ hb⟩, by rw [hst.len]; exact hbl, fun y => ?_, q.1, q.2, alGet_of_mem strEmb (alSrt_del h.fsrt name) hq, hqr⟩
          rw [hst.uses, hbu, useN_del h.fsrt hg, if_pos rfl]; omega
        · cases hx
      · next e =>
        obtain ⟨a1, a2, a3, a4, k, r', a5, a6⟩ := h.bin x L hx
        refine ⟨a1, a2, a3, fun y => ?_, k, r', ?_, a6⟩
        · rw [a4, useN_del h.fsrt hg, if_neg e]; omega
        · rw [alGet_del, if_neg (fun e2 => by subst e2; rw [hg] at a5; injection a5 with a5; subst a5; exact e a6)]; exact a5
/-! ### sweeping -/
theorem alSrt_map {K V U : Type} {lt : K → K → Bool} (f : V → U) {L : List (K × V)} (h : AlSrt lt L) : AlSrt lt (alMap f L) := alMap_srt.2 h
theorem count_pos_of {s p : Bytes} (hp : p ∈ pieces s) : 0 < (idsOf s).count (idOf p) := List.count_pos_iff.2 (List.mem_map_of_mem hp)
theorem NodeOk.sweep {P : PNode} (h : NodeOk P) : NodeOk (sweepN P) := by
  refine ⟨h.fsrt, alSrt_map sweepB h.bsrt, h.flen, fun k r hk => ?_, fun x L hx => ?_⟩
  · have hk : alGet P.files k = some r := hk
    obtain ⟨s, a1, a2, a3, L0, a4, a5⟩ := h.file k r hk
    refine ⟨s, a1, a2, a3, sweepB L0, ?_, fun p hp => ?_⟩
    · show alGet (alMap sweepB P.bins) (repR r) = _
      rw [alGet_map, a4]; rfl
    · obtain ⟨o, ho, ht⟩ := a5 p hp
      refine ⟨o, ?_, ht⟩
      have hb := h.bin7 a4
      rw [getB_sweep hb.srt, ho]
      simp only
      have hu := (h.bin _ _ a4).2.2.2.1 (idOf p)
      rw [usesB_some ho, useN_del h.fsrt hk, if_pos rfl] at hu
      have h1 := useN_nonneg (alDel k P.files) (repR r) (idOf p)
      have h2 := count_pos_of hp
      have h3 : r.ids.count (idOf p) = (idsOf s).count (idOf p) := by rw [a3]; rfl
      rw [if_neg (by omega)]
  · have hx : alGet (alMap sweepB P.bins) x = some L := hx
    rw [alGet_map] at hx
    cases hg : alGet P.bins x with
    | none => rw [hg] at hx; cases hx
    | some L0 =>
      rw [hg] at hx
      injection hx with hx
      subst hx
      obtain ⟨a1, ⟨n, hn, hb⟩, a3, a4, a5⟩ := h.bin x L0 hg
      exact ⟨a1, ⟨n, hn, binOk_filter hb usedB⟩, Nat.le_trans (List.length_filter_le _ _) a3, fun y => by rw [usesB_sweep hb.srt]; exact a4 y, a5⟩
/-! ### getting -/
theorem NodeOk.get {P : PNode} (h : NodeOk P) {name : Bytes} {r : Rcp} (hg : alGet P.files name = some r) : ∃ s, isName name = true ∧ s.length ≤ 4000 ∧ r = rcpOf name s ∧ getN name P = (s, 0) ∧ (∃ L, alGet P.bins (repR r) = some L ∧ (idsOf s).map (textB L) = pieces s ∧ ∀ x ∈ idsOf s, (getB L x).isSome = true) := by
  obtain ⟨s, a1, a2, a3, L, a4, a5⟩ := h.file name r hg
  have e : (idsOf s).map (textB L) = pieces s := by
    unfold idsOf
    rw [List.map_map]
    conv => rhs; rw [← List.map_id (pieces s)]
    refine List.map_congr_left fun p hp => ?_
    obtain ⟨o, ho, ht⟩ := a5 p hp
    show ((getB L (idOf p)).map Hld.text).getD [] = p
    rw [ho]; exact ht
  refine ⟨s, a1, a2, a3, ?_, L, a4, e, fun x hx => ?_⟩
  · unfold getN
    rw [hg]
    simp only
    have hbn : binN P (repR r) = L := by unfold binN; rw [a4]; rfl
    rw [hbn, show r.ids = idsOf s by rw [a3]; rfl, e, pieces_flatten]
  · obtain ⟨p, hp, rfl⟩ := List.mem_map.1 hx
    obtain ⟨o, ho, _⟩ := a5 p hp
    rw [ho]; rfl
/-! ### how many bins -/
theorem nodup_len {α : Type} [DecidableEq α] : ∀ {A B : List α}, A.Nodup → (∀ a ∈ A, a ∈ B) → A.length ≤ B.length
  | [], _, _, _ => Nat.zero_le _
  | a :: A, B, hn, h => by
    obtain ⟨h1, h2⟩ := List.nodup_cons.1 hn
    have := nodup_len (A := A) (B := B.erase a) h2 (fun x hx => (List.mem_erase_of_ne (fun e => by subst e; exact h1 hx)).2 (h x (List.mem_cons_of_mem _ hx)))
    rw [List.length_erase_of_mem (h a List.mem_cons_self)] at this
    have hp : 0 < B.length := List.length_pos_of_mem (h a List.mem_cons_self)
    rw [List.length_cons]; omega
theorem al_nodup {K V : Type} [DecidableEq K] {lit : K → Lit} {lt : K → K → Bool} {ok okw : K → Prop} (E : KeyEmb lit lt ok okw) {L : List (K × V)} (h : AlSrt lt L) : (L.map (·.1)).Nodup := by
  unfold List.Nodup
  rw [List.pairwise_map]
  exact h.imp fun hab => E.ne hab
theorem NodeOk.blen {P : PNode} (h : NodeOk P) : P.bins.length ≤ P.files.length := by
  have := nodup_len (A := P.bins.map (·.1)) (B := P.files.map fun q => repR q.2) (al_nodup idEmb h.bsrt) (fun x hx => by
    obtain ⟨q, hq, rfl⟩ := List.mem_map.1 hx
    obtain ⟨_, _, _, _, k, r, h1, h2⟩ := h.bin q.1 q.2 (alGet_of_mem idEmb h.bsrt hq)
    rw [← h2]
    exact List.mem_map_of_mem (f := fun q : Bytes × Rcp => repR q.2) (alGet_mem h1))
  simpa using this
theorem NodeOk.size {P : PNode} (h : NodeOk P) : 0 ≤ sizeN P ∧ sizeN P ≤ 16000 * P.bins.length := by
  have hb : ∀ q ∈ P.bins, 0 ≤ sizeB q.2 ∧ sizeB q.2 ≤ 16000 := fun q hq => by
    have hg := alGet_of_mem idEmb h.bsrt hq
    have := (h.bin7 hg).size
    have hl := (h.bin q.1 q.2 hg).2.2.1
    omega
  unfold sizeN
  generalize P.bins = B at hb
  induction B with
  | nil => simp
  | cons q r ih =>
    have h1 := ih (fun z hz => hb z (List.mem_cons_of_mem _ hz))
    have h2 := hb q List.mem_cons_self
    rw [List.map_cons, List.sum_cons, List.length_cons]; omega
end Go.Proofs.YtpanoplcamdnkaaGreatDoor

/- Plain words: pieces of a bin as a text, read back, and filled in. No program in sight. No conditions. -/
import Derived.Test.YtpanoplcamdnkaaGreatDoorPlainB
import Derived.Test.YtpanoplcamdnkaaGreatDoorPlainH
namespace Go.Proofs.YtpanoplcamdnkaaGreatDoor
open Go.RowKit Go.Lib

/-! ### a piece in front of a text -/
/-- a piece in front, and what stands behind -/
def oneF (s : Bytes) : Option (Hld × Bytes) := match byteCut 10 s with
  | none => none
  | some (head, rest) => match byteCut 32 head with
    | none => none
    | some (i, u) => match readId i, numOf u 6 with
      | some (p, n), some k => if rest[n]? = some 10 then some (⟨(p, (n : Int)), (k : Int), rest.take n⟩, rest.drop (n + 1)) else none
      | _, _ => none
theorem oneF_of {s head rest i u : Bytes} {p n k : Nat} (h1 : byteCut 10 s = some (head, rest)) (h2 : byteCut 32 head = some (i, u)) (h3 : readId i = some (p, n)) (h4 : numOf u 6 = some k) (h5 : rest[n]? = some 10) :
    oneF s = some (⟨(p, (n : Int)), (k : Int), rest.take n⟩, rest.drop (n + 1)) := by
  unfold oneF; rw [h1]; simp only [h2, h3, h4]; rw [if_pos h5]
theorem oneF_inv {s : Bytes} {x : Hld} {r : Bytes} (h : oneF s = some (x, r)) : ∃ head rest i u p n k, byteCut 10 s = some (head, rest) ∧ byteCut 32 head = some (i, u) ∧ readId i = some (p, n) ∧ numOf u 6 = some k ∧ rest[n]? = some 10 ∧
    x = ⟨(p, (n : Int)), (k : Int), rest.take n⟩ ∧ r = rest.drop (n + 1) := by
  unfold oneF at h
  split at h
  · cases h
  · next head rest h1 =>
    split at h
    · cases h
    · next i u h2 =>
      split at h
      · next p n k h3 h4 =>
        split at h
        · next h5 =>
          injection h with h
          injection h with e1 e2
          exact ⟨head, rest, i, u, p, n, k, h1, h2, h3, h4, h5, e1.symm, e2.symm⟩
        · cases h
      · cases h
theorem oneF_shorter {s : Bytes} {x : Hld} {r : Bytes} (h : oneF s = some (x, r)) : r.length < s.length := by
  obtain ⟨head, rest, i, u, p, n, k, h1, _, _, _, h5, _, rfl⟩ := oneF_inv h
  obtain ⟨rfl, _⟩ := byteCut_some _ _ _ _ h1
  simp only [List.length_append, List.length_cons, List.length_drop]
  omega
theorem oneF_none1 {s : Bytes} (h : byteCut 10 s = none) : oneF s = none := by unfold oneF; rw [h]
theorem oneF_none2 {s head rest : Bytes} (h : byteCut 10 s = some (head, rest)) (h2 : byteCut 32 head = none) : oneF s = none := by unfold oneF; rw [h]; simp only [h2]
theorem oneF_none3 {s head rest i u : Bytes} (h : byteCut 10 s = some (head, rest)) (h2 : byteCut 32 head = some (i, u)) (h3 : readId i = none) : oneF s = none := by unfold oneF; rw [h]; simp only [h2, h3]
theorem oneF_none4 {s head rest i u : Bytes} (h : byteCut 10 s = some (head, rest)) (h2 : byteCut 32 head = some (i, u)) (h3 : numOf u 6 = none) : oneF s = none := by unfold oneF; rw [h]; simp only [h2, h3]; cases readId i <;> rfl
theorem oneF_none5 {s head rest i u : Bytes} {p n k : Nat} (h1 : byteCut 10 s = some (head, rest)) (h2 : byteCut 32 head = some (i, u)) (h3 : readId i = some (p, n)) (h4 : numOf u 6 = some k) (h5 : rest[n]? ≠ some 10) : oneF s = none := by
  unfold oneF; rw [h1]; simp only [h2, h3, h4]; rw [if_neg h5]
/-! ### is a piece what its ID says, above the one ahead? -/
def markB (q : Option Hld) (h : Hld) : Int := if idOf h.text ≠ h.id then 9 else match q with
  | some q => if lesser q.id h.id = true then 0 else 8
  | none => 0
theorem markB_sum {q : Option Hld} {h : Hld} (e : idOf h.text ≠ h.id) : markB q h = 9 := by unfold markB; rw [if_pos e]
theorem markB_order {q h : Hld} (e : idOf h.text = h.id) (e2 : lesser q.id h.id = false) : markB (some q) h = 8 := by unfold markB; rw [if_neg (by simp [e])]; simp [e2]
theorem markB_fine {q h : Hld} (e : idOf h.text = h.id) (e2 : lesser q.id h.id = true) : markB (some q) h = 0 := by unfold markB; rw [if_neg (by simp [e])]; simp [e2]
theorem markB_first {h : Hld} (e : idOf h.text = h.id) : markB none h = 0 := by unfold markB; rw [if_neg (by simp [e])]
theorem markB_cases (q : Option Hld) (h : Hld) : markB q h = 0 ∨ markB q h = 8 ∨ markB q h = 9 := by
  unfold markB
  split
  · exact .inr (.inr rfl)
  · split
    · split
      · exact .inl rfl
      · exact .inr (.inl rfl)
    · exact .inl rfl
/-- of the piece at a place -/
def markAt (l : HldL) (i : Nat) (h : Hld) : Int := markB (if i = 0 then none else l[i - 1]?) h
/-! ### reading -/
/-- pieces, an error's number and its place -/
def readF (acc : HldL) (s : Bytes) : HldL × Int × Int :=
  if s = [] then (acc, 0, -1) else
  match _h : oneF s with
  | none => ([], 1, acc.length)
  | some (x, r) => if markB acc.getLast? x = 0 then readF (acc ++ [x]) r else ([], markB acc.getLast? x, acc.length)
termination_by s.length
decreasing_by exact oneF_shorter _h
theorem readF_nil (acc : HldL) : readF acc [] = (acc, 0, -1) := by rw [readF]; simp
theorem readF_none {acc : HldL} {s : Bytes} (hs : s ≠ []) (h : oneF s = none) : readF acc s = ([], 1, (acc.length : Int)) := by
  rw [readF, if_neg hs]
  split
  · rfl
  · next x r h2 => rw [h] at h2; cases h2
theorem readF_step {acc : HldL} {s : Bytes} {x : Hld} {r : Bytes} (hs : s ≠ []) (h : oneF s = some (x, r)) (hm : markB acc.getLast? x = 0) : readF acc s = readF (acc ++ [x]) r := by
  rw [readF, if_neg hs]
  split
  · next h2 => rw [h] at h2; cases h2
  · next x' r' h2 =>
    rw [h] at h2
    injection h2 with h2
    injection h2 with e1 e2
    subst e1; subst e2
    rw [if_pos hm]
theorem readF_mark {acc : HldL} {s : Bytes} {x : Hld} {r : Bytes} (hs : s ≠ []) (h : oneF s = some (x, r)) (hm : markB acc.getLast? x ≠ 0) : readF acc s = ([], markB acc.getLast? x, (acc.length : Int)) := by
  rw [readF, if_neg hs]
  split
  · next h2 => rw [h] at h2; cases h2
  · next x' r' h2 =>
    rw [h] at h2
    injection h2 with h2
    injection h2 with e1 e2
    subst e1; subst e2
    rw [if_neg hm]
theorem getLast_take {l : HldL} {k : Nat} (hk : k ≤ l.length) : (l.take k).getLast? = if k = 0 then none else l[k - 1]? := by
  by_cases h : k = 0
  · subst h; simp
  · rw [if_neg h, List.getLast?_eq_getElem?, List.length_take, Nat.min_eq_left hk, List.getElem?_take, if_pos (by omega)]
/-- reading a text: too long, or as it is -/
def readHF (s : Bytes) : HldL × Int × Int := if 40000 < s.length then ([], 2, -1) else readF [] s
/-! ### a text of pieces -/
def lineF (h : Hld) : Bytes := idText h.id.1 h.id.2 ++ 32 :: (itoa h.uses ++ 10 :: (h.text ++ [10]))
def textF (l : HldL) : Bytes := (l.map lineF).flatten
theorem textF_nil : textF [] = [] := rfl
theorem textF_cons (h : Hld) (l : HldL) : textF (h :: l) = lineF h ++ textF l := by unfold textF; rw [List.map_cons, List.flatten_cons]
theorem textF_snoc (l : HldL) (h : Hld) : textF (l ++ [h]) = textF l ++ lineF h := by unfold textF; simp
/-! ### filling -/
def rightB2 (h : Hld) : Bool := rightB h.text && decide (0 ≤ h.uses)
/-- what is wrong of a piece at a place -/
def fillAt (l : HldL) (i : Nat) (h : Hld) : Int := if rightB2 h = true then markAt l i h else 2
/-- the first piece that is wrong, from a place on -/
def fillFrom (l : HldL) : Nat → HldL → Int × Int
  | _, [] => (0, -1)
  | i, h :: r => if fillAt l i h = 0 then fillFrom l (i + 1) r else (fillAt l i h, i)
def fillF (l : HldL) : Int × Int := if 250 < l.length then (7, -1) else fillFrom l 0 l
/-- the rest is to be looked at -/
def FillSt (l : HldL) (k : Nat) : Prop := fillFrom l 0 l = fillFrom l k (l.drop k) ∧ ∀ j (hj : j < l.length), j < k → fillAt l j l[j] = 0
theorem FillSt.start (l : HldL) : FillSt l 0 := ⟨rfl, fun _ _ h => absurd h (Nat.not_lt_zero _)⟩
theorem FillSt.next {l : HldL} {k : Nat} (h : FillSt l k) (hk : k < l.length) (e : fillAt l k l[k] = 0) : FillSt l (k + 1) := by
  refine ⟨?_, fun j hj hjk => ?_⟩
  · rw [h.1, List.drop_eq_getElem_cons hk, fillFrom, if_pos e]
  · by_cases hjj : j = k
    · subst hjj; exact e
    · exact h.2 j hj (by omega)
theorem FillSt.hit {l : HldL} {k : Nat} (h : FillSt l k) (hk : k < l.length) (e : fillAt l k l[k] ≠ 0) : fillFrom l 0 l = (fillAt l k l[k], (k : Int)) := by
  rw [h.1, List.drop_eq_getElem_cons hk, fillFrom, if_neg e]
theorem FillSt.done {l : HldL} (h : FillSt l l.length) : fillFrom l 0 l = (0, -1) := by rw [h.1, List.drop_length, fillFrom]
theorem fillAt_right {l : HldL} {i : Nat} {h : Hld} (e : fillAt l i h = 0) : rightB2 h = true ∧ markAt l i h = 0 := by
  unfold fillAt at e
  split at e
  · next hr => exact ⟨hr, e⟩
  · exact absurd e (by decide)
theorem markB_id {q : Option Hld} {h : Hld} (e : markB q h = 0) : h.id = idOf h.text := by
  unfold markB at e
  split at e
  · exact absurd e (by decide)
  · next hh => exact (Decidable.not_not.1 hh).symm
theorem FillSt.taken {l : HldL} {k : Nat} (h : FillSt l k) (hk : k ≤ l.length) (n : Int) (hn : ∀ x ∈ l, x.uses ≤ n) : BinOk n (l.take k) := by
  induction k with
  | zero => rw [List.take_zero]; exact BinOk.nil n
  | succ k ih =>
    have hkl : k < l.length := by omega
    have e := h.2 k hkl (Nat.lt_succ_self k)
    obtain ⟨e1, e2⟩ := fillAt_right e
    have hst : FillSt l k := by
      refine ⟨?_, fun j hj hjk => h.2 j hj (by omega)⟩
      have h1 := h.1
      rw [h1, List.drop_eq_getElem_cons hkl (l := l), fillFrom, if_pos e]
    have hb := ih hst (by omega)
    have hl : HldOk n l[k] := by
      unfold rightB2 at e1
      rw [Bool.and_eq_true, decide_eq_true_iff] at e1
      exact ⟨markB_id e2, rightB_iff.1 e1.1, e1.2, hn _ (List.getElem_mem hkl)⟩
    rw [List.take_succ_eq_append_getElem hkl]
    refine ⟨List.pairwise_append.2 ⟨hb.srt, List.pairwise_singleton _ _, fun x hx y hy => ?_⟩, fun x hx => ?_⟩
    · rw [List.mem_singleton] at hy
      subst hy
      unfold markAt at e2
      by_cases hk0 : k = 0
      · subst hk0; simp at hx
      · rw [if_neg hk0, List.getElem?_eq_getElem (by omega : k - 1 < l.length)] at e2
        have hord : lesser l[k - 1].id l[k].id = true := by
          unfold markB at e2
          split at e2
          · exact absurd e2 (by decide)
          · simp only at e2
            split at e2
            · assumption
            · exact absurd e2 (by decide)
        have hlast : l.take k = l.take (k - 1) ++ [l[k - 1]] := by
          have := List.take_succ_eq_append_getElem (show k - 1 < l.length by omega)
          rwa [show k - 1 + 1 = k by omega] at this
        rw [hlast] at hx
        rcases List.mem_append.1 hx with hx | hx
        · have hs := hb.srt
          rw [hlast] at hs
          have := (List.pairwise_append.1 hs).2.2 x hx l[k - 1] (List.mem_singleton.2 rfl)
          exact lesser_trans this hord
        · rw [List.mem_singleton.1 hx]; exact hord
    · rcases List.mem_append.1 hx with hx | hx
      · exact hb.all x hx
      · rw [List.mem_singleton.1 hx]; exact hl
/-- a piece above all the others comes last -/
theorem setB_last {L : HldL} {h : Hld} (hl : ∀ x ∈ L, lesser x.id h.id = true) : setB h L = L ++ [h] := by
  induction L with
  | nil => rfl
  | cons y r ih =>
    have h1 := hl y List.mem_cons_self
    unfold setB
    rw [if_neg (lesser_ne h1), if_neg (fun e => by have := lesser_trans h1 e; rw [lesser_irrefl] at this; cases this), ih (fun x hx => hl x (List.mem_cons_of_mem _ hx))]
    rfl
theorem FillSt.set {l : HldL} {k : Nat} (h : FillSt l k) (hk : k < l.length) (e : fillAt l k l[k] = 0) : setB l[k] (l.take k) = l.take (k + 1) := by
  have hb := (h.next hk e).taken hk (l.foldl (fun m x => max m x.uses) 0) (fun x hx => by
    have : ∀ (q : HldL) (m : Int), m ≤ q.foldl (fun m x => max m x.uses) m ∧ ∀ y ∈ q, y.uses ≤ q.foldl (fun m x => max m x.uses) m := by
      intro q
      induction q with
      | nil => intro m; exact ⟨Int.le_refl _, fun _ h => by cases h⟩
      | cons z q ih =>
        intro m
        have h1 := ih (max m z.uses)
        have h2 := h1.1
        refine ⟨by show m ≤ q.foldl _ (max m z.uses); omega, fun y hy => ?_⟩
        show y.uses ≤ q.foldl _ (max m z.uses)
        rcases List.mem_cons.1 hy with rfl | hy
        · omega
        · exact h1.2 y hy
    exact (this l 0).2 x hx)
  have hs := hb.srt
  rw [List.take_succ_eq_append_getElem hk] at hs ⊢
  exact setB_last fun x hx => (List.pairwise_append.1 hs).2.2 x hx l[k] (List.mem_singleton.2 rfl)
/-! ### what is written is read -/
theorem decDigits_no (u : Nat) (c : UInt8) (hc : c.toNat < 48) : c ∉ decDigits u := fun h => by have := (decDigits_digit u c h).1; omega
theorem hexc_no10 (d : Nat) (h : d < 16) : hexc d ≠ 10 := (show ∀ e : Fin 16, hexc e.1 ≠ 10 by decide) ⟨d, h⟩
theorem idText_no10 (p k : Nat) : (10 : UInt8) ∉ idText p (k : Int) := fun h => by
  unfold idText at h
  rw [if_neg (by omega), itoa_nat] at h
  rcases List.mem_append.1 h with h | h
  · unfold hex8 hexL at h
    obtain ⟨j, _, hj⟩ := List.mem_map.1 h
    exact hexc_no10 _ (Nat.mod_lt _ (by decide)) hj
  · rcases List.mem_cons.1 h with h | h
    · exact absurd h (by decide)
    · exact decDigits_no k 10 (by decide) h
theorem oneF_line {h : Hld} (hk : HldOk 999999 h) (r : Bytes) : oneF (lineF h ++ r) = some (h, r) := by
  obtain ⟨u, hu⟩ : ∃ u : Nat, h.uses = (u : Int) := ⟨h.uses.toNat, by have := hk.uses; omega⟩
  have hu6 : u < 1000000 := by have := hk.uses; omega
  have hid := hk.id
  have hlen := hk.len
  have h1 : h.id.1 = prOf h.text := by rw [hid]; rfl
  have h2 : h.id.2 = (h.text.length : Int) := by rw [hid]; rfl
  have e1 : lineF h ++ r = (idText (prOf h.text) (h.text.length : Int) ++ 32 :: decDigits u) ++ 10 :: (h.text ++ 10 :: r) := by
    unfold lineF; rw [h1, h2, hu, itoa_nat]; simp
  have n1 : (10 : UInt8) ∉ idText (prOf h.text) (h.text.length : Int) ++ 32 :: decDigits u := fun hm => by
    rcases List.mem_append.1 hm with hm | hm
    · exact idText_no10 _ _ hm
    · rcases List.mem_cons.1 hm with hm | hm
      · exact absurd hm (by decide)
      · exact decDigits_no u 10 (by decide) hm
  have n4 : numOf (decDigits u) 6 = some u := numOf_dec u 6 (by omega) (by rw [decDigits_length]; exact nDigits_le_of u 5 (by omega))
  rw [e1, oneF_of (byteCut_of 10 _ _ n1) (byteCut_of 32 _ _ (idText_no32 _ _)) (readId_text _ _ (prOf_lt _) (by omega)) n4 (by rw [List.getElem?_append_right (Nat.le_refl _)]; simp)]
  congr 1
  refine Prod.ext ?_ ?_
  · show (⟨(prOf h.text, ((h.text.length : Nat) : Int)), (u : Int), (h.text ++ 10 :: r).take h.text.length⟩ : Hld) = h
    rw [List.take_left', ← hu]
    · obtain ⟨id, us, t⟩ := h
      simp only at hid
      rw [hid]; rfl
    · rfl
  · show (h.text ++ 10 :: r).drop (h.text.length + 1) = r
    rw [show h.text ++ 10 :: r = (h.text ++ [10]) ++ r by simp, List.drop_left' (by simp)]
theorem lineF_ne (h : Hld) (r : Bytes) : lineF h ++ r ≠ [] := by unfold lineF; simp
theorem readF_text : ∀ {l acc : HldL}, BinOk 999999 (acc ++ l) → readF acc (textF l) = (acc ++ l, 0, -1)
  | [], acc, _ => by rw [textF_nil, readF_nil, List.append_nil]
  | h :: r, acc, hb => by
    have hk : HldOk 999999 h := hb.all h (List.mem_append_right _ List.mem_cons_self)
    have hm : markB acc.getLast? h = 0 := by
      unfold markB
      rw [if_neg (by rw [hk.id]; simp)]
      cases hl : acc.getLast? with
      | none => rfl
      | some q =>
        have hq : q ∈ acc := List.mem_of_getLast? hl
        have := (List.pairwise_append.1 hb.srt).2.2 q hq h List.mem_cons_self
        simp only [this, if_true]
    rw [textF_cons, readF_step (lineF_ne h _) (oneF_line hk _) hm]
    have e : acc ++ h :: r = (acc ++ [h]) ++ r := by simp
    rw [e] at hb ⊢
    exact readF_text hb
theorem lineF_length {h : Hld} (hk : HldOk 999999 h) : (lineF h).length ≤ 100 := by
  obtain ⟨u, hu⟩ : ∃ u : Nat, h.uses = (u : Int) := ⟨h.uses.toNat, by have := hk.uses; omega⟩
  have hlen := hk.len
  have h2 : h.id.2 = (h.text.length : Int) := by rw [hk.id]; rfl
  have n1 : (decDigits u).length ≤ 6 := by rw [decDigits_length]; exact nDigits_le_of u 5 (by have := hk.uses; omega)
  have n2 : (decDigits h.text.length).length ≤ 6 := by rw [decDigits_length]; exact nDigits_le_of _ 5 (by omega)
  unfold lineF idText
  rw [h2, if_neg (by omega), hu, itoa_nat, itoa_nat]
  have : (hex8 h.id.1).length = 8 := hexL_length _ _
  simp only [List.length_append, List.length_cons, List.length_nil]
  omega
theorem textF_length {l : HldL} (hb : ∀ h ∈ l, HldOk 999999 h) : (textF l).length ≤ 100 * l.length := by
  induction l with
  | nil => simp [textF]
  | cons h r ih =>
    have h1 := lineF_length (hb h List.mem_cons_self)
    have h2 := ih (fun x hx => hb x (List.mem_cons_of_mem _ hx))
    rw [textF_cons, List.length_append, List.length_cons]; omega
theorem readHF_text {l : HldL} (hb : BinOk 999999 l) (hl : l.length ≤ 400) : readHF (textF l) = (l, 0, -1) := by
  have := textF_length hb.all
  unfold readHF
  rw [if_neg (by omega), readF_text (acc := []) (by simpa using hb)]
  rfl
end Go.Proofs.YtpanoplcamdnkaaGreatDoor

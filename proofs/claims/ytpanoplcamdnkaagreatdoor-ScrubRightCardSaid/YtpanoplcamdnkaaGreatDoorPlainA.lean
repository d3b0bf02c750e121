/- Plain words: byte strings as lists, the cutting of a text into pieces; no program in sight. No conditions. -/
import Derived.Lib.Strings
import Derived.Laws.Strings
namespace Go.Proofs.YtpanoplcamdnkaaGreatDoor

abbrev Bytes := List UInt8
def bs (l : Bytes) : ByteArray := ⟨l.toArray⟩
theorem bs_toList (l : Bytes) : (bs l).data.toList = l := by simp [bs]
theorem bs_of (s : ByteArray) : bs s.data.toList = s := by cases s; simp [bs]
theorem bs_size (l : Bytes) : (bs l).size = l.length := List.size_toArray
theorem size_toList (s : ByteArray) : s.size = s.data.toList.length := Array.length_toList.symm
theorem bs_inj {a b : Bytes} : bs a = bs b ↔ a = b := ⟨fun h => by rw [← bs_toList a, h, bs_toList], fun h => by rw [h]⟩
theorem ba_ext {a b : ByteArray} (h : a.data.toList = b.data.toList) : a = b := by rw [← bs_of a, h, bs_of]
theorem extract_toList (s : ByteArray) (a b : Nat) : (s.extract a b).data.toList = (s.data.toList.take b).drop a := by
  rw [Lib.extract_data]; simp [List.drop_take]
theorem extract_bs (s : ByteArray) (a b : Nat) : s.extract a b = bs ((s.data.toList.take b).drop a) := by
  apply ba_ext; rw [extract_toList, bs_toList]

/-- two strings, as the walk holds them against each other -/
theorem str_beq (s t : ByteArray) : (s.toList == t.toList) = decide (s.data.toList = t.data.toList) := by
  rw [ByteArray.toList_eq, ByteArray.toList_eq, Bool.eq_iff_iff, beq_iff_eq, decide_eq_true_iff]
theorem bs_beq (a b : Bytes) : ((bs a).toList == (bs b).toList) = decide (a = b) := by rw [str_beq, bs_toList, bs_toList]

/-- the sum of the last eight bytes -/
def sum8 (p : Bytes) : Nat := ((p.drop (p.length - 8)).map (·.toNat)).sum
/-- does a piece end behind its bytes? -/
def endsB (p : Bytes) : Bool := if 64 ≤ p.length then true else if p.length < 16 then false else sum8 p % 16 == 15
/-- the pieces of a text, of which the bytes cur of a piece have been read -/
def pcs (cur : Bytes) : Bytes → List Bytes
  | [] => []
  | b :: r => if endsB (cur ++ [b]) then (cur ++ [b]) :: pcs [] r else if r = [] then [cur ++ [b]] else pcs (cur ++ [b]) r
def pieces (s : Bytes) : List Bytes := pcs [] s
/-- where pieces begin and end -/
def spans (n : Nat) : List Bytes → List (Nat × Nat)
  | [] => []
  | p :: ps => (n, n + p.length) :: spans (n + p.length) ps
def cutsAt (n : Nat) (l : List Bytes) : List Nat := (spans n l).map (·.2)
def cuts (s : Bytes) : List Nat := cutsAt 0 (pieces s)

theorem pcs_cons (cur : Bytes) (b : UInt8) (r : Bytes) : pcs cur (b :: r) = if endsB (cur ++ [b]) then (cur ++ [b]) :: pcs [] r else if r = [] then [cur ++ [b]] else pcs (cur ++ [b]) r := rfl
theorem spans_length (n : Nat) (l : List Bytes) : (spans n l).length = l.length := by
  induction l generalizing n with
  | nil => rfl
  | cons p ps ih => simp [spans, ih]

theorem pcs_flatten (cur r : Bytes) (h : r ≠ []) : (pcs cur r).flatten = cur ++ r := by
  induction r generalizing cur with
  | nil => exact absurd rfl h
  | cons b r ih =>
    unfold pcs
    by_cases he : endsB (cur ++ [b]) = true
    · rw [if_pos he]
      cases r with
      | nil => simp [pcs]
      | cons c r => rw [List.flatten_cons, ih [] (by simp)]; simp
    · rw [if_neg he]
      cases r with
      | nil => simp
      | cons c r => rw [if_neg (by simp), ih _ (by simp)]; simp
theorem pieces_flatten (s : Bytes) : (pieces s).flatten = s := by
  cases s with
  | nil => rfl
  | cons b r => exact (pcs_flatten [] (b :: r) (by simp)).trans rfl

theorem pcs_ne (cur r : Bytes) : ∀ p ∈ pcs cur r, p ≠ [] := by
  induction r generalizing cur with
  | nil => simp [pcs]
  | cons b r ih =>
    unfold pcs
    split
    · intro p hp
      rcases List.mem_cons.1 hp with rfl | hp
      · simp
      · exact ih _ p hp
    · split
      · intro p hp
        rw [List.mem_singleton] at hp
        subst hp; simp
      · exact ih _
theorem pieces_ne (s : Bytes) : ∀ p ∈ pieces s, p ≠ [] := pcs_ne [] s

theorem endsB_len {p : Bytes} (h : endsB p = true) : 16 ≤ p.length := by
  unfold endsB at h
  split at h
  · omega
  · split at h
    · cases h
    · omega
theorem pcs_max (cur r : Bytes) (hc : cur.length < 64) : ∀ p ∈ pcs cur r, p.length ≤ 64 := by
  induction r generalizing cur with
  | nil => simp [pcs]
  | cons b r ih =>
    unfold pcs
    split
    · intro p hp
      rcases List.mem_cons.1 hp with rfl | hp
      · simp; omega
      · exact ih _ (by simp) p hp
    · rename_i he
      split
      · intro p hp
        rw [List.mem_singleton] at hp
        subst hp; simp; omega
      · refine ih _ ?_
        rcases Nat.lt_or_ge (cur ++ [b]).length 64 with h | h
        · exact h
        · exact absurd (by unfold endsB; rw [if_pos h]) he
theorem pieces_max (s : Bytes) : ∀ p ∈ pieces s, p.length ≤ 64 := pcs_max [] s (by simp)

/-- every piece but the last ends by its own bytes -/
theorem pcs_min (cur r : Bytes) (i : Nat) (h : i + 1 < (pcs cur r).length) : ∃ p, (pcs cur r)[i]? = some p ∧ endsB p = true := by
  induction r generalizing cur i with
  | nil => simp [pcs] at h
  | cons b r ih =>
    unfold pcs at h ⊢
    by_cases he : endsB (cur ++ [b]) = true
    · rw [if_pos he] at h ⊢
      cases i with
      | zero => exact ⟨_, rfl, he⟩
      | succ i => exact ih [] i (by simpa using h)
    · rw [if_neg he] at h ⊢
      by_cases hr : r = []
      · rw [if_pos hr] at h; simp at h
      · rw [if_neg hr] at h ⊢; exact ih _ i h

theorem pcs_last (cur : Bytes) (b : UInt8) : pcs cur [b] = [cur ++ [b]] := by
  unfold pcs
  split <;> simp [pcs]

/-- what is behind a cut is cut as it is alone, what is ahead of it too -/
theorem pcs_split (cur r : Bytes) (k : Nat) (hk : k < (pcs cur r).length) :
    ∃ a b, r = a ++ b ∧ a ≠ [] ∧ ((pcs cur r).take (k + 1)).flatten = cur ++ a ∧ pcs [] b = (pcs cur r).drop (k + 1) ∧ pcs cur a = (pcs cur r).take (k + 1) := by
  induction r generalizing cur k with
  | nil => simp [pcs] at hk
  | cons c r ih =>
    unfold pcs at hk
    by_cases he : endsB (cur ++ [c]) = true
    · rw [if_pos he] at hk
      cases k with
      | zero =>
        refine ⟨[c], r, rfl, by simp, ?_, ?_, ?_⟩
        · simp [pcs, he]
        · simp [pcs, he]
        · rw [pcs_last]; simp [pcs, he]
      | succ k =>
        obtain ⟨a, b, hr, ha, h1, h2, h3⟩ := ih [] k (by simpa using hk)
        refine ⟨c :: a, b, by rw [hr]; rfl, by simp, ?_, ?_, ?_⟩
        · rw [show pcs cur (c :: r) = (cur ++ [c]) :: pcs [] r from by rw [pcs, if_pos he]]
          rw [List.take_succ_cons, List.flatten_cons, h1]; simp
        · rw [show pcs cur (c :: r) = (cur ++ [c]) :: pcs [] r from by rw [pcs, if_pos he]]
          rw [List.drop_succ_cons, h2]
        · rw [show pcs cur (c :: r) = (cur ++ [c]) :: pcs [] r from by rw [pcs, if_pos he]]
          rw [pcs, if_pos he, h3, List.take_succ_cons]
    · rw [if_neg he] at hk
      by_cases hr0 : r = []
      · rw [if_pos hr0] at hk
        subst hr0
        have hk0 : k = 0 := by simp at hk; omega
        subst hk0
        refine ⟨[c], [], rfl, by simp, ?_, ?_, ?_⟩
        · rw [pcs_last]; simp
        · rw [pcs_last]; simp [pcs]
        · rw [pcs_last]; simp
      · rw [if_neg hr0] at hk
        obtain ⟨a, b, hr, ha, h1, h2, h3⟩ := ih _ k hk
        have e : pcs cur (c :: r) = pcs (cur ++ [c]) r := by rw [pcs, if_neg he, if_neg hr0]
        refine ⟨c :: a, b, by rw [hr]; rfl, by simp, ?_, ?_, ?_⟩
        · rw [e, h1]; simp
        · rw [e, h2]
        · rw [e, pcs, if_neg he, if_neg ha, h3]

theorem cutsAt_get (n : Nat) (l : List Bytes) (k : Nat) (hk : k < l.length) : (cutsAt n l)[k]? = some (n + ((l.take (k + 1)).flatten).length) := by
  induction l generalizing n k with
  | nil => simp at hk
  | cons p ps ih =>
    cases k with
    | zero => simp [cutsAt, spans]
    | succ k =>
      have := ih (n + p.length) k (by simpa using hk)
      simp only [cutsAt] at this ⊢
      simp only [spans, List.map_cons, List.getElem?_cons_succ, this, List.take_succ_cons, List.flatten_cons, List.length_append, Nat.add_assoc]
theorem cuts_length (s : Bytes) : (cuts s).length = (pieces s).length := by simp [cuts, cutsAt, spans_length]
theorem cuts_get (s : Bytes) (k : Nat) (hk : k < (pieces s).length) : (cuts s)[k]? = some (((pieces s).take (k + 1)).flatten).length := by
  rw [cuts, cutsAt_get 0 _ k hk, Nat.zero_add]

theorem pieces_split (s : Bytes) (k : Nat) (hk : k < (pieces s).length) :
    pieces (s.drop (((pieces s).take (k + 1)).flatten).length) = (pieces s).drop (k + 1) ∧
    pieces (s.take (((pieces s).take (k + 1)).flatten).length) = (pieces s).take (k + 1) := by
  obtain ⟨a, b, hr, _, h1, h2, h3⟩ := pcs_split [] s k hk
  rw [show pieces s = pcs [] s from rfl, h1, List.nil_append]
  constructor
  · rw [← h2]; conv => lhs; rw [hr]
    rw [List.drop_left]; rfl
  · rw [← h3]; conv => lhs; rw [hr]
    rw [List.take_left]; rfl

theorem spans_cut (L : Bytes) (l : List Bytes) : ∀ n, L.drop n = l.flatten → (spans n l).map (fun x => (L.take x.2).drop x.1) = l := by
  induction l with
  | nil => intro n _; rfl
  | cons p ps ih =>
    intro n h
    have h1 : (L.take (n + p.length)).drop n = p := by
      rw [List.drop_take, h, Nat.add_sub_cancel_left, List.flatten_cons, List.take_left]
    have h2 : L.drop (n + p.length) = ps.flatten := by
      rw [← List.drop_drop, h, List.flatten_cons, List.drop_left]
    rw [spans, List.map_cons, ih _ h2, h1]
theorem pieces_spans (L : Bytes) : (spans 0 (pieces L)).map (fun x => (L.take x.2).drop x.1) = pieces L :=
  spans_cut L (pieces L) 0 (by rw [pieces_flatten]; rfl)
/-- where a piece lies in a text of N bytes -/
abbrev Sp (N : Nat) := { x : Nat × Nat // x.1 ≤ x.2 ∧ x.2 ≤ N }

theorem flat_le (l : List Bytes) (h : ∀ p ∈ l, p ≠ []) : l.length ≤ l.flatten.length := by
  induction l with
  | nil => simp
  | cons p ps ih =>
    have h1 := ih (fun q hq => h q (List.mem_cons_of_mem _ hq))
    have h2 : 0 < p.length := List.length_pos_iff.2 (h p List.mem_cons_self)
    simp only [List.length_cons, List.flatten_cons, List.length_append]
    omega
theorem pieces_length_le (s : Bytes) : (pieces s).length ≤ s.length := by
  have := flat_le _ (pieces_ne s)
  rwa [pieces_flatten] at this

/-- what is still to be yielded behind k bytes, a piece having begun at f -/
def Left (L : Bytes) (f k : Nat) : List (Nat × Nat) := spans f (pcs ((L.take k).drop f) (L.drop k))
theorem left_end (L : Bytes) (f k : Nat) (h : L.length ≤ k) : Left L f k = [] := by
  unfold Left; rw [List.drop_eq_nil_of_le h]; rfl
theorem cur_succ (L : Bytes) (f k : Nat) (hf : f ≤ k) (hk : k < L.length) : (L.take (k + 1)).drop f = (L.take k).drop f ++ [L[k]] := by
  rw [List.take_succ_eq_append_getElem hk, List.drop_append_of_le_length (by rw [List.length_take]; omega)]
theorem cur_length (L : Bytes) (f k : Nat) (hk : k ≤ L.length) : ((L.take k).drop f).length = k - f := by
  rw [List.length_drop, List.length_take]; omega
theorem drop_take_self (L : Bytes) (k : Nat) : (L.take k).drop k = [] := List.drop_eq_nil_of_le (by rw [List.length_take]; omega)
theorem left_hit (L : Bytes) (f k : Nat) (hf : f ≤ k) (hk : k < L.length) (he : endsB ((L.take (k + 1)).drop f) = true) :
    Left L f k = (f, k + 1) :: Left L (k + 1) (k + 1) := by
  unfold Left
  rw [List.drop_eq_getElem_cons hk, pcs_cons, ← cur_succ L f k hf hk, if_pos he, spans, cur_length L f (k + 1) hk, show f + (k + 1 - f) = k + 1 from by omega, drop_take_self]
theorem left_last (L : Bytes) (f k : Nat) (hf : f ≤ k) (hk : k + 1 = L.length) (he : endsB ((L.take (k + 1)).drop f) = false) :
    Left L f k = [(f, k + 1)] := by
  have hk' : k < L.length := by omega
  unfold Left
  rw [List.drop_eq_getElem_cons hk', pcs_cons, ← cur_succ L f k hf hk', if_neg (by rw [he]; simp), if_pos (List.drop_eq_nil_of_le (by omega)), spans, cur_length L f (k + 1) (by omega), show f + (k + 1 - f) = k + 1 from by omega]
  rfl
theorem left_miss (L : Bytes) (f k : Nat) (hf : f ≤ k) (hk : k + 1 < L.length) (he : endsB ((L.take (k + 1)).drop f) = false) :
    Left L f k = Left L f (k + 1) := by
  have hk' : k < L.length := by omega
  unfold Left
  rw [List.drop_eq_getElem_cons hk', pcs_cons, ← cur_succ L f k hf hk', if_neg (by rw [he]; simp), if_neg (by intro h; have := congrArg List.length h; simp at this; omega)]
theorem left_start (L : Bytes) : Left L 0 0 = spans 0 (pieces L) := rfl
end Go.Proofs.YtpanoplcamdnkaaGreatDoor

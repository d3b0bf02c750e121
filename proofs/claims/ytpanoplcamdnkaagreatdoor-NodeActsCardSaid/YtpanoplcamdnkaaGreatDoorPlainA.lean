/- Plain words: byte strings as lists, the cutting of a text into pieces; no program in sight. No conditions. -/
import Derived.Lib.Strings
import Derived.Laws.Strings
namespace Go.Proofs.YtpanoplcamdnkaaGreatDoor

abbrev Bytes := List UInt8
def bs (l : Bytes) : ByteArray := ⟨l.toArray⟩
theorem bs_toList (l : Bytes) : (bs l).data.toList = l := by simp [bs]
theorem bs_of (s : ByteArray) : bs s.data.toList = s := by cases s; simp [bs]
theorem bs_size (l : Bytes) : (bs l).size = l.length := List.size_toArray
theorem size_toList (s : ByteArray) : s.size = s.data.toList.length := Array.length_toList.symm
theorem ba_ext {a b : ByteArray} (h : a.data.toList = b.data.toList) : a = b := by rw [← bs_of a, h, bs_of]
theorem extract_toList (s : ByteArray) (a b : Nat) : (s.extract a b).data.toList = (s.data.toList.take b).drop a := by
  rw [Lib.extract_data]; simp [List.drop_take]
theorem extract_bs (s : ByteArray) (a b : Nat) : s.extract a b = bs ((s.data.toList.take b).drop a) := by
  apply ba_ext; rw [extract_toList, bs_toList]

/-- two strings, as the walk holds them against each other -/
theorem str_beq (s t : ByteArray) : (s.toList == t.toList) = decide (s.data.toList = t.data.toList) := by
  rw [ByteArray.toList_eq, ByteArray.toList_eq, Bool.eq_iff_iff, beq_iff_eq, decide_eq_true_iff]
theorem bs_beq (a b : Bytes) : ((bs a).toList == (bs b).toList) = decide (a = b) := by rw [str_beq, bs_toList, bs_toList]

/-- the sum of the last eight bytes -/
def sum8 (p : Bytes) : Nat := ((p.drop (p.length - 8)).map (·.toNat)).sum
/-- does a piece end behind its bytes? -/
def endsB (p : Bytes) : Bool := if 64 ≤ p.length then true else if p.length < 16 then false else sum8 p % 16 == 15
/-- the pieces of a text, of which the bytes cur of a piece have been read -/
def pcs (cur : Bytes) : Bytes → List Bytes
  | [] => []
  | b :: r => if endsB (cur ++ [b]) then (cur ++ [b]) :: pcs [] r else if r = [] then [cur ++ [b]] else pcs (cur ++ [b]) r
def pieces (s : Bytes) : List Bytes := pcs [] s
/-- where pieces begin and end -/
def spans (n : Nat) : List Bytes → List (Nat × Nat)
  | [] => []
  | p :: ps => (n, n + p.length) :: spans (n + p.length) ps
def cutsAt (n : Nat) (l : List Bytes) : List Nat := (spans n l).map (·.2)
def cuts (s : Bytes) : List Nat := cutsAt 0 (pieces s)

theorem pcs_cons (cur : Bytes) (b : UInt8) (r : Bytes) : pcs cur (b :: r) = if endsB (cur ++ [b]) then (cur ++ [b]) :: pcs [] r else if r = [] then [cur ++ [b]] else pcs (cur ++ [b]) r := rfl
theorem spans_length (n : Nat) (l : List Bytes) : (spans n l).length = l.length := by
  induction l generalizing n with
  | nil => rfl
  | cons p ps ih => simp [spans, ih]

theorem pcs_flatten (cur r : Bytes) (h : r ≠ []) : (pcs cur r).flatten = cur ++ r := by
  induction r generalizing cur with
  | nil => exact absurd rfl h
  | cons b r ih =>
    unfold pcs
    by_cases he : endsB (cur ++ [b]) = true
    · rw [if_pos he]
      cases r with
      | nil => simp [pcs]
      | cons c r => rw [List.flatten_cons, ih [] (by simp)]; simp
    · rw [if_neg he]
      cases r with
      | nil => simp
      | cons c r => rw [if_neg (by simp), ih _ (by simp)]; simp
theorem pieces_flatten (s : Bytes) : (pieces s).flatten = s := by
  cases s with
  | nil => rfl
  | cons b r => exact (pcs_flatten [] (b :: r) (by simp)).trans rfl

theorem pcs_ne (cur r : Bytes) : ∀ p ∈ pcs cur r, p ≠ [] := by
  induction r generalizing cur with
  | nil => simp [pcs]
  | cons b r ih =>
    unfold pcs
    split
    · intro p hp
      rcases List.mem_cons.1 hp with rfl | hp
      · simp
      · exact ih _ p hp
    · split
      · intro p hp
        rw [List.mem_singleton] at hp
        subst hp; simp
      · exact ih _
theorem pieces_ne (s : Bytes) : ∀ p ∈ pieces s, p ≠ [] := pcs_ne [] s

theorem endsB_len {p : Bytes} (h : endsB p = true) : 16 ≤ p.length := by
  unfold endsB at h
  split at h
  · omega
  · split at h
    · cases h
    · omega
theorem pcs_max (cur r : Bytes) (hc : cur.length < 64) : ∀ p ∈ pcs cur r, p.length ≤ 64 := by
  induction r generalizing cur with
  | nil => simp [pcs]
  | cons b r ih =>
    unfold pcs
    split
    · intro p hp
      rcases List.mem_cons.1 hp with rfl | hp
      · simp; omega
      · exact ih _ (by simp) p hp
    · rename_i he
      split
      · intro p hp
        rw [List.mem_singleton] at hp
        subst hp; simp; omega
      · refine ih _ ?_
        rcases Nat.lt_or_ge (cur ++ [b]).length 64 with h | h
        · exact h
        · exact absurd (by unfold endsB; rw [if_pos h]) he
theorem pieces_max (s : Bytes) : ∀ p ∈ pieces s, p.length ≤ 64 := pcs_max [] s (by simp)

theorem spans_cut (L : Bytes) (l : List Bytes) : ∀ n, L.drop n = l.flatten → (spans n l).map (fun x => (L.take x.2).drop x.1) = l := by
  induction l with
  | nil => intro n _; rfl
  | cons p ps ih =>
    intro n h
    have h1 : (L.take (n + p.length)).drop n = p := by
      rw [List.drop_take, h, Nat.add_sub_cancel_left, List.flatten_cons, List.take_left]
    have h2 : L.drop (n + p.length) = ps.flatten := by
      rw [← List.drop_drop, h, List.flatten_cons, List.drop_left]
    rw [spans, List.map_cons, ih _ h2, h1]
theorem pieces_spans (L : Bytes) : (spans 0 (pieces L)).map (fun x => (L.take x.2).drop x.1) = pieces L :=
  spans_cut L (pieces L) 0 (by rw [pieces_flatten]; rfl)
/-- where a piece lies in a text of N bytes -/
abbrev Sp (N : Nat) := { x : Nat × Nat // x.1 ≤ x.2 ∧ x.2 ≤ N }

theorem flat_le (l : List Bytes) (h : ∀ p ∈ l, p ≠ []) : l.length ≤ l.flatten.length := by
  induction l with
  | nil => simp
  | cons p ps ih =>
    have h1 := ih (fun q hq => h q (List.mem_cons_of_mem _ hq))
    have h2 : 0 < p.length := List.length_pos_iff.2 (h p List.mem_cons_self)
    simp only [List.length_cons, List.flatten_cons, List.length_append]
    omega
theorem pieces_length_le (s : Bytes) : (pieces s).length ≤ s.length := by
  have := flat_le _ (pieces_ne s)
  rwa [pieces_flatten] at this

/-- what is still to be yielded behind k bytes, a piece having begun at f -/
def Left (L : Bytes) (f k : Nat) : List (Nat × Nat) := spans f (pcs ((L.take k).drop f) (L.drop k))
theorem left_end (L : Bytes) (f k : Nat) (h : L.length ≤ k) : Left L f k = [] := by
  unfold Left; rw [List.drop_eq_nil_of_le h]; rfl
theorem cur_succ (L : Bytes) (f k : Nat) (hf : f ≤ k) (hk : k < L.length) : (L.take (k + 1)).drop f = (L.take k).drop f ++ [L[k]] := by
  rw [List.take_succ_eq_append_getElem hk, List.drop_append_of_le_length (by rw [List.length_take]; omega)]
theorem cur_length (L : Bytes) (f k : Nat) (hk : k ≤ L.length) : ((L.take k).drop f).length = k - f := by
  rw [List.length_drop, List.length_take]; omega
theorem drop_take_self (L : Bytes) (k : Nat) : (L.take k).drop k = [] := List.drop_eq_nil_of_le (by rw [List.length_take]; omega)
theorem left_hit (L : Bytes) (f k : Nat) (hf : f ≤ k) (hk : k < L.length) (he : endsB ((L.take (k + 1)).drop f) = true) :
    Left L f k = (f, k + 1) :: Left L (k + 1) (k + 1) := by
  unfold Left
  rw [List.drop_eq_getElem_cons hk, pcs_cons, ← cur_succ L f k hf hk, if_pos he, spans, cur_length L f (k + 1) hk, show f + (k + 1 - f) = k + 1 from by omega, drop_take_self]
theorem left_last (L : Bytes) (f k : Nat) (hf : f ≤ k) (hk : k + 1 = L.length) (he : endsB ((L.take (k + 1)).drop f) = false) :
    Left L f k = [(f, k + 1)] := by
  have hk' : k < L.length := by omega
  unfold Left
  rw [List.drop_eq_getElem_cons hk', pcs_cons, ← cur_succ L f k hf hk', if_neg (by rw [he]; simp), if_pos (List.drop_eq_nil_of_le (by omega)), spans, cur_length L f (k + 1) (by omega), show f + (k + 1 - f) = k + 1 from by omega]
  rfl
theorem left_miss (L : Bytes) (f k : Nat) (hf : f ≤ k) (hk : k + 1 < L.length) (he : endsB ((L.take (k + 1)).drop f) = false) :
    Left L f k = Left L f (k + 1) := by
  have hk' : k < L.length := by omega
  unfold Left
  rw [List.drop_eq_getElem_cons hk', pcs_cons, ← cur_succ L f k hf hk', if_neg (by rw [he]; simp), if_neg (by intro h; have := congrArg List.length h; simp at this; omega)]
end Go.Proofs.YtpanoplcamdnkaaGreatDoor

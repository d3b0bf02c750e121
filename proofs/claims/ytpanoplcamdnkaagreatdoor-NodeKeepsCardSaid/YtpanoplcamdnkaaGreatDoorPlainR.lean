/- Plain words: recipes: what a recipe's fault is, its text, what is read of a text, what is joined, its rep; and the laws of a recipe that was made of a text. No program in sight. No conditions. -/
import Derived.Test.YtpanoplcamdnkaaGreatDoorPlainH
import Derived.Test.YtpanoplcamdnkaaGreatDoorCmpT
import Derived.Test.YtpanoplcamdnkaaGreatDoorName
import Derived.Lib.Join
namespace Go.Proofs.YtpanoplcamdnkaaGreatDoor
open Go.RowKit Go.Lib

abbrev Idn := Nat × Int
abbrev IdL := List Idn
structure Rcp where
  name : Bytes
  len : Int
  print : Nat
  ids : IdL
def idOf (p : Bytes) : Idn := (prOf p, (p.length : Int))
def idsOf (s : Bytes) : IdL := (pieces s).map idOf
def rcpOf (name s : Bytes) : Rcp := ⟨name, s.length, prOf s, idsOf s⟩
def rcpZero : Rcp := ⟨[], 0, 0, []⟩
/-- the fault of the pieces from the i-th on; n bytes lie ahead -/
def idsFault (len : Int) : Nat → Int → IdL → Int × Int
  | _, n, [] => if n = len then (0, -1) else (9, -1)
  | i, n, x :: r => if x.2 < 1 ∨ 64 < x.2 then (3, (i : Int)) else idsFault len (i + 1) (n + x.2) r
def rcpFault (r : Rcp) : Int × Int :=
  if isName r.name = false then (4, -1) else if r.len < 0 ∨ 4000 < r.len then (2, -1) else if 250 < r.ids.length then (7, -1) else idsFault r.len 0 0 r.ids
def joinMis : Nat → List Bytes → IdL → Option Nat
  | i, p :: ls, x :: r => if idOf p = x then joinMis (i + 1) ls r else some i
  | _, _, _ => none
def joinEnd (r : Rcp) (ls : List Bytes) : Option Nat → Bytes × Int × Int
  | some i => ([], 9, (i : Int))
  | none => if prOf ls.flatten = r.print then (ls.flatten, 0, -1) else ([], 9, -1)
def joinRes (r : Rcp) (ls : List Bytes) : Bytes × Int × Int :=
  if (rcpFault r).1 ≠ 0 then ([], rcpFault r) else if ls.length ≠ r.ids.length then ([], 3, -1) else joinEnd r ls (joinMis 0 ls r.ids)
def lesser (x m : Idn) : Bool := lessId x.1 m.1 x.2 m.2
def repFrom : Idn → IdL → Idn
  | m, [] => m
  | m, x :: r => repFrom (if lesser x m then x else m) r
def repOf : IdL → Idn
  | [] => idOf []
  | x :: r => repFrom x r
def idsText : IdL → Bytes
  | [] => []
  | x :: r => 32 :: (idText x.1 x.2 ++ idsText r)
def rcpText (r : Rcp) : Bytes := r.name ++ 32 :: (itoa r.len ++ 32 :: (hex8 r.print ++ idsText r.ids))
def readIds : List Bytes → Option IdL
  | [] => some []
  | x :: r => match readId x with
    | some (n, k) => match readIds r with
      | some l => some ((n, (k : Int)) :: l)
      | none => none
    | none => none
def readEnd (a : Bytes) (n p : Nat) : Option IdL → Except (Int × Int) Rcp
  | some ids => if (rcpFault ⟨a, n, p, ids⟩).1 = 0 then .ok ⟨a, n, p, ids⟩ else .error (rcpFault ⟨a, n, p, ids⟩)
  | none => .error (1, -1)
def readWs : List Bytes → Except (Int × Int) Rcp
  | a :: b :: c :: ws => match numOf b 6, unhexOf c with
    | some n, some p => readEnd a n p (readIds ws)
    | _, _ => .error (1, -1)
  | _ => .error (1, -1)
def readRcp (t : Bytes) : Except (Int × Int) Rcp := if 40000 < t.length then .error (2, -1) else readWs (cutAll 32 t)

/-! ### faults -/
theorem idsFault_two (len : Int) (L : IdL) : ∀ i n, (idsFault len i n L).1 = 0 → idsFault len i n L = (0, -1) := by
  induction L with
  | nil => intro i n h; unfold idsFault at h ⊢; split at h <;> simp_all
  | cons x r ih => intro i n h; unfold idsFault at h ⊢; split at h; · cases h
                   rename_i hc; rw [if_neg hc]; exact ih _ _ h
theorem rcpFault_two {r : Rcp} (h : (rcpFault r).1 = 0) : rcpFault r = (0, -1) := by
  unfold rcpFault at h ⊢
  split at h
  · cases h
  · rename_i h1
    rw [if_neg h1]
    split at h
    · cases h
    · rename_i h2
      rw [if_neg h2]
      split at h
      · cases h
      · rename_i h3
        rw [if_neg h3]
        exact idsFault_two _ _ _ _ h
theorem rcpFault_name {r : Rcp} (h : (rcpFault r).1 = 0) : isName r.name = true ∧ 0 ≤ r.len ∧ r.len ≤ 4000 ∧ r.ids.length ≤ 250 ∧ idsFault r.len 0 0 r.ids = (0, -1) := by
  have h0 := rcpFault_two h
  unfold rcpFault at h0
  split at h0
  · cases h0
  · split at h0
    · cases h0
    · split at h0
      · cases h0
      · rename_i h1 h2 h3
        exact ⟨by simpa using h1, by omega, by omega, by omega, h0⟩
theorem idsFault_lens (len : Int) (L : IdL) : ∀ i n, (idsFault len i n L).1 = 0 → ∀ x ∈ L, 1 ≤ x.2 ∧ x.2 ≤ 64 := by
  induction L with
  | nil => intro _ _ _ x hx; cases hx
  | cons y r ih =>
    intro i n h x hx
    unfold idsFault at h
    split at h
    · cases h
    · rename_i hc
      rcases List.mem_cons.1 hx with rfl | hx
      · omega
      · exact ih _ _ h x hx
theorem idsFault_code (len : Int) (L : IdL) : ∀ i n, (idsFault len i n L).1 = 0 ∨ (idsFault len i n L).1 = 3 ∨ (idsFault len i n L).1 = 9 := by
  induction L with
  | nil => intro i n; unfold idsFault; split <;> simp
  | cons y r ih => intro i n; unfold idsFault; split; · simp
                   exact ih _ _
theorem rcpFault_code (r : Rcp) : (rcpFault r).1 = 0 ∨ (rcpFault r).1 = 2 ∨ (rcpFault r).1 = 3 ∨ (rcpFault r).1 = 4 ∨ (rcpFault r).1 = 7 ∨ (rcpFault r).1 = 9 := by
  unfold rcpFault
  split
  · simp
  · split
    · simp
    · split
      · simp
      · rcases idsFault_code r.len r.ids 0 0 with h | h | h <;> simp [h]
theorem idsFault_of (len : Int) (ps : List Bytes) (h : ∀ p ∈ ps, p ≠ [] ∧ p.length ≤ 64) : ∀ i n, n + (ps.flatten.length : Int) = len → idsFault len i n (ps.map idOf) = (0, -1) := by
  induction ps with
  | nil => intro i n hn; simp at hn; unfold idsFault; rw [List.map_nil]; simp [hn]
  | cons p r ih =>
    intro i n hn
    obtain ⟨h1, h2⟩ := h p (List.mem_cons_self ..)
    have h3 : 0 < p.length := List.length_pos_iff.2 h1
    rw [List.map_cons]
    unfold idsFault
    rw [if_neg (by show ¬ ((p.length : Int) < 1 ∨ 64 < (p.length : Int)); omega)]
    refine ih (fun q hq => h q (List.mem_cons_of_mem _ hq)) _ _ ?_
    show n + (p.length : Int) + _ = len
    rw [List.flatten_cons, List.length_append] at hn
    omega
theorem pcs_len (cur r : Bytes) : 16 * (pcs cur r).length ≤ cur.length + r.length + 15 := by
  induction r generalizing cur with
  | nil => simp [pcs]
  | cons b r ih =>
    rw [pcs_cons]
    split
    · rename_i he
      have h1 := endsB_len he
      have h2 := ih []
      simp at h1 h2 ⊢
      omega
    · split
      · simp; omega
      · have h2 := ih (cur ++ [b])
        simp at h2 ⊢
        omega
theorem pieces_len (s : Bytes) : 16 * (pieces s).length ≤ s.length + 15 := by
  have := pcs_len [] s
  simp at this
  exact this
theorem rcpFault_of {name s : Bytes} (hn : isName name = true) (hs : s.length ≤ 4000) : rcpFault (rcpOf name s) = (0, -1) := by
  unfold rcpFault rcpOf
  have h1 := pieces_len s
  rw [if_neg (by simp [hn]), if_neg (by simp only; omega), if_neg (by simp only [idsOf, List.length_map]; omega)]
  exact idsFault_of _ _ (fun p hp => ⟨pieces_ne s p hp, pieces_max s p hp⟩) 0 0 (by rw [pieces_flatten]; simp)
/-! ### joining -/
theorem joinMis_of (ls : List Bytes) : ∀ i, joinMis i ls (ls.map idOf) = none := by
  induction ls with
  | nil => intro i; rfl
  | cons p r ih => intro i; rw [List.map_cons]; unfold joinMis; rw [if_pos rfl]; exact ih _
theorem joinRes_of {name s : Bytes} (hn : isName name = true) (hs : s.length ≤ 4000) : joinRes (rcpOf name s) (pieces s) = (s, 0, -1) := by
  unfold joinRes
  rw [rcpFault_of hn hs, if_neg (by simp), if_neg (by simp [rcpOf, idsOf])]
  have : joinMis 0 (pieces s) (rcpOf name s).ids = none := joinMis_of _ 0
  rw [this]
  unfold joinEnd
  rw [if_pos (by rw [pieces_flatten]; rfl), pieces_flatten]
theorem joinMis_set (p : Bytes) : ∀ (ls : List Bytes) (k i : Nat) (hk : k < ls.length), idOf p ≠ idOf ls[k] → joinMis i (ls.set k p) (ls.map idOf) = some (i + k)
  | [], _, _, hk, _ => absurd hk (by simp)
  | q :: r, 0, i, _, h => by
    show joinMis i (p :: r) (idOf q :: r.map idOf) = _
    unfold joinMis
    rw [if_neg (show ¬ idOf p = idOf q from h)]; rfl
  | q :: r, k + 1, i, hk, h => by
    show joinMis i (q :: r.set k p) (idOf q :: r.map idOf) = _
    unfold joinMis
    rw [if_pos rfl, joinMis_set p r k (i + 1) (by simpa using hk) h]
    congr 1; omega
theorem joinRes_set {name s p : Bytes} (hn : isName name = true) (hs : s.length ≤ 4000) (k : Nat) (hk : k < (pieces s).length) (h : idOf p ≠ idOf (pieces s)[k]) : joinRes (rcpOf name s) ((pieces s).set k p) = ([], 9, (k : Int)) := by
  unfold joinRes
  rw [rcpFault_of hn hs, if_neg (by simp), if_neg (by simp [rcpOf, idsOf])]
  have : joinMis 0 ((pieces s).set k p) (rcpOf name s).ids = some (0 + k) := joinMis_set p _ k 0 hk h
  rw [this]
  simp [joinEnd]
/-! ### the rep -/
theorem lesser_irrefl (x : Idn) : lesser x x = false := by unfold lesser lessId; simp
theorem lesser_false {x y : Idn} : lesser x y = false ↔ y.1 < x.1 ∨ (y.1 = x.1 ∧ y.2 ≤ x.2) := by
  unfold lesser lessId
  by_cases h : x.1 = y.1
  · simp [h]
  · rw [if_pos h, decide_eq_false_iff_not]
    omega
theorem lesser_true {x y : Idn} : lesser x y = true ↔ x.1 < y.1 ∨ (x.1 = y.1 ∧ x.2 < y.2) := by
  unfold lesser lessId
  by_cases h : x.1 = y.1
  · simp [h]
  · rw [if_pos h, decide_eq_true_eq]
    omega
theorem repFrom_mem (L : IdL) : ∀ m, repFrom m L = m ∨ repFrom m L ∈ L := by
  induction L with
  | nil => intro m; exact .inl rfl
  | cons x r ih =>
    intro m
    show repFrom (if lesser x m then x else m) r = m ∨ _
    rcases ih (if lesser x m then x else m) with h | h
    · rw [show repFrom m (x :: r) = repFrom (if lesser x m then x else m) r from rfl, h]
      split
      · exact .inr (List.mem_cons_self ..)
      · exact .inl rfl
    · exact .inr (List.mem_cons_of_mem _ h)
theorem repFrom_le (L : IdL) : ∀ m, lesser m (repFrom m L) = false ∧ ∀ x ∈ L, lesser x (repFrom m L) = false := by
  induction L with
  | nil => intro m; exact ⟨lesser_irrefl m, fun x hx => by cases hx⟩
  | cons y r ih =>
    intro m
    obtain ⟨h1, h2⟩ := ih (if lesser y m then y else m)
    have e : repFrom m (y :: r) = repFrom (if lesser y m then y else m) r := rfl
    rw [← e] at h1 h2
    generalize repFrom m (y :: r) = z at *
    by_cases hy : lesser y m = true
    · rw [if_pos hy] at h1
      rw [lesser_false] at h1
      have hy' := lesser_true.1 hy
      refine ⟨lesser_false.2 (by omega), fun x hx => ?_⟩
      rcases List.mem_cons.1 hx with rfl | hx
      · exact lesser_false.2 h1
      · exact h2 x hx
    · rw [if_neg hy] at h1
      have hy' := lesser_false.1 (by simpa using hy)
      rw [lesser_false] at h1
      refine ⟨lesser_false.2 h1, fun x hx => ?_⟩
      rcases List.mem_cons.1 hx with rfl | hx
      · exact lesser_false.2 (by omega)
      · exact h2 x hx
theorem repOf_mem {L : IdL} (h : L ≠ []) : repOf L ∈ L := by
  cases L with
  | nil => exact absurd rfl h
  | cons x r =>
    rcases repFrom_mem r x with h | h
    · show repFrom x r ∈ _; rw [h]; exact List.mem_cons_self ..
    · exact List.mem_cons_of_mem _ h
theorem repOf_le (L : IdL) : ∀ x ∈ L, lesser x (repOf L) = false := by
  cases L with
  | nil => intro x hx; cases hx
  | cons y r =>
    intro x hx
    rcases List.mem_cons.1 hx with rfl | hx
    · exact (repFrom_le r _).1
    · exact (repFrom_le r y).2 x hx
/-! ### reading what was written -/
theorem name_no32 {l : Bytes} (h : isName l = true) : (32 : UInt8) ∉ l := fun hm => by
  unfold isName at h
  have h3 := List.all_eq_true.1 (Bool.and_eq_true_iff.1 h).2 32 hm
  exact absurd h3 (by decide)
theorem dec_no32 (u : Nat) : (32 : UInt8) ∉ decDigits u := fun hm => by
  have := decDigits_digit u 32 hm
  exact absurd this.1 (by decide)
theorem hexc_no32 (d : Nat) (h : d < 16) : hexc d ≠ 32 := (show ∀ e : Fin 16, hexc e.1 ≠ 32 by decide) ⟨d, h⟩
theorem hex8_no32 (p : Nat) : (32 : UInt8) ∉ hex8 p := fun h => by
  unfold hex8 hexL at h
  obtain ⟨j, _, hj⟩ := List.mem_map.1 h
  exact hexc_no32 _ (Nat.mod_lt _ (by decide)) hj
theorem idText_no32 (p k : Nat) : (32 : UInt8) ∉ idText p (k : Int) := fun h => by
  unfold idText at h
  rw [if_neg (by omega), itoa_nat] at h
  rcases List.mem_append.1 h with h | h
  · exact hex8_no32 p h
  · rcases List.mem_cons.1 h with h | h
    · cases h
    · exact dec_no32 k h
theorem cut_last (b : UInt8) (l : Bytes) (h : b ∉ l) : cutAll b l = [l] := by
  unfold cutAll; rw [cutAux_none b l [] h]; rfl
theorem cut_more (b : UInt8) (d r : Bytes) (h : b ∉ d) : cutAll b (d ++ b :: r) = d :: cutAll b r := by
  unfold cutAll; rw [cutAux_some b d r [] h]; rfl
theorem cut_ids (b : UInt8) : ∀ (L : IdL) (d : Bytes), (32 : UInt8) ∉ d → (∀ x ∈ L, 0 ≤ x.2) → cutAll 32 (d ++ idsText L) = d :: L.map fun x => idText x.1 x.2
  | [], d, hd, _ => by show cutAll 32 (d ++ []) = [d]; rw [List.append_nil]; exact cut_last _ _ hd
  | x :: r, d, hd, h => by
    show cutAll 32 (d ++ 32 :: (idText x.1 x.2 ++ idsText r)) = d :: idText x.1 x.2 :: _
    have hx := h x (List.mem_cons_self ..)
    obtain ⟨k, hk⟩ : ∃ k : Nat, x.2 = k := ⟨x.2.toNat, by omega⟩
    rw [cut_more _ _ _ hd, cut_ids b r _ (by rw [hk]; exact idText_no32 _ _) (fun y hy => h y (List.mem_cons_of_mem _ hy))]
theorem readIds_text : ∀ (L : IdL), (∀ x ∈ L, x.1 < 4294967296 ∧ 0 ≤ x.2 ∧ x.2 < 1000000) → readIds (L.map fun x => idText x.1 x.2) = some L
  | [], _ => rfl
  | x :: r, h => by
    obtain ⟨h1, h2, h3⟩ := h x (List.mem_cons_self ..)
    obtain ⟨k, hk⟩ : ∃ k : Nat, x.2 = k := ⟨x.2.toNat, by omega⟩
    show readIds (idText x.1 x.2 :: r.map fun x => idText x.1 x.2) = _
    unfold readIds
    rw [hk, readId_text x.1 k h1 (by omega), readIds_text r (fun y hy => h y (List.mem_cons_of_mem _ hy))]
    simp only
    rw [← hk]
theorem idText_le {x : Idn} (h0 : 0 ≤ x.2) (h1 : x.2 ≤ 64) : (idText x.1 x.2).length ≤ 11 := by
  obtain ⟨k, hk⟩ : ∃ k : Nat, x.2 = k := ⟨x.2.toNat, by omega⟩
  unfold idText
  rw [if_neg (by omega), hk, itoa_nat, List.length_append, List.length_cons, show (hex8 x.1).length = 8 from hexL_length _ _, decDigits_length]
  have := nDigits_le_of k 1 (by omega)
  omega
theorem idsText_le : ∀ (L : IdL), (∀ x ∈ L, 1 ≤ x.2 ∧ x.2 ≤ 64) → (idsText L).length ≤ 12 * L.length
  | [], _ => by simp [idsText]
  | x :: r, h => by
    have h1 := h x (List.mem_cons_self ..)
    have h2 := idsText_le r (fun y hy => h y (List.mem_cons_of_mem _ hy))
    have h3 := idText_le (x := x) (by omega) h1.2
    show (32 :: (idText x.1 x.2 ++ idsText r)).length ≤ _
    rw [List.length_cons, List.length_append, List.length_cons]
    omega
theorem isName_le {l : Bytes} (h : isName l = true) : l.length ≤ 12 := by
  unfold isName at h
  have := (Bool.and_eq_true_iff.1 (Bool.and_eq_true_iff.1 h).1).2
  exact of_decide_eq_true this
theorem itoa_le4 {n : Int} (h0 : 0 ≤ n) (h1 : n ≤ 4000) : (itoa n).length ≤ 4 := by
  obtain ⟨k, hk⟩ : ∃ k : Nat, n = k := ⟨n.toNat, by omega⟩
  rw [hk, itoa_nat, decDigits_length]
  exact nDigits_le_of k 3 (by omega)
theorem rcpText_le {r : Rcp} (h : (rcpFault r).1 = 0) : (rcpText r).length ≤ 4000 := by
  obtain ⟨h1, h2, h3, h4, h5⟩ := rcpFault_name h
  have h6 := idsText_le r.ids (idsFault_lens _ _ 0 0 (by rw [h5]))
  have h7 := isName_le h1
  have h8 := itoa_le4 h2 h3
  unfold rcpText
  rw [List.length_append, List.length_cons, List.length_append, List.length_cons, List.length_append, show (hex8 r.print).length = 8 from hexL_length _ _]
  omega
theorem readRcp_text {r : Rcp} (h : (rcpFault r).1 = 0) (hp : r.print < 4294967296) (hi : ∀ x ∈ r.ids, x.1 < 4294967296) : readRcp (rcpText r) = .ok r := by
  obtain ⟨h1, h2, h3, h4, h5⟩ := rcpFault_name h
  have h6 := idsFault_lens _ _ 0 0 (show (idsFault r.len 0 0 r.ids).1 = 0 by rw [h5])
  have h9 := rcpText_le h
  obtain ⟨k, hk⟩ : ∃ k : Nat, r.len = k := ⟨r.len.toNat, by omega⟩
  unfold readRcp
  rw [if_neg (by omega)]
  unfold rcpText
  rw [cut_more _ _ _ (name_no32 h1), cut_more _ _ _ (by rw [hk, itoa_nat]; exact dec_no32 k), cut_ids 32 _ _ (hex8_no32 _) (fun x hx => by have := h6 x hx; omega)]
  unfold readWs
  have e1 : numOf (itoa r.len) 6 = some k := by rw [hk, itoa_nat]; exact numOf_dec k 6 (by omega) (by rw [decDigits_length]; exact nDigits_le_of k 5 (by omega))
  have e2 : (⟨r.name, (k : Int), r.print, r.ids⟩ : Rcp) = r := by rw [← hk]
  simp only [e1, unhexOf_hex8 _ hp, readIds_text _ (fun x hx => ⟨hi x hx, by have := h6 x hx; omega, by have := h6 x hx; omega⟩), readEnd, e2]
  rw [if_pos h]
theorem idsOf_lt (s : Bytes) : ∀ x ∈ idsOf s, x.1 < 4294967296 := by
  intro x hx
  obtain ⟨p, _, rfl⟩ := List.mem_map.1 hx
  exact prOf_lt p
/-! ### a text's words, joined with a blank -/
theorem joinTail_ids : ∀ (L : IdL), joinTail [32] (L.map fun x => idText x.1 x.2) = idsText L
  | [] => rfl
  | x :: r => by
    show ([32] ++ idText x.1 x.2) ++ joinTail [32] (r.map fun x => idText x.1 x.2) = 32 :: (idText x.1 x.2 ++ idsText r)
    rw [joinTail_ids r]; simp
theorem join_text (r : Rcp) : join ([r.name, itoa r.len, hex8 r.print] ++ r.ids.map fun x => idText x.1 x.2) [32] = rcpText r := by
  show join (r.name :: itoa r.len :: hex8 r.print :: r.ids.map fun x => idText x.1 x.2) [32] = rcpText r
  rw [join_cons]
  show r.name ++ (([32] ++ itoa r.len) ++ (([32] ++ hex8 r.print) ++ joinTail [32] _)) = _
  rw [joinTail_ids]
  unfold rcpText
  simp
theorem joinTail_nil : ∀ (ls : List Bytes), joinTail [] ls = ls.flatten
  | [] => rfl
  | x :: r => by show ([] ++ x) ++ joinTail [] r = x ++ r.flatten; rw [joinTail_nil r]; rfl
theorem join_flat (ls : List Bytes) : join ls [] = ls.flatten := by
  cases ls with
  | nil => rfl
  | cons x r => rw [join_cons, joinTail_nil]; rfl
/-! ### strings.Split at a byte is the document's cutting -/
theorem cutAux_index (c : UInt8) : ∀ (s cur : Bytes), cutAux c cur s = if index s [c] == -1 then [cur ++ s] else (cur ++ s.take (index s [c]).toNat) :: cutAll c (s.drop ((index s [c]).toNat + 1))
  | [], cur => by
    have : index ([] : Bytes) [c] = -1 := by simp [index]
    rw [this]; simp [cutAux]
  | b :: l, cur => by
    rw [cutAux]
    by_cases h : b = c
    · subst h
      have hix : index (b :: l) [b] = 0 := by rw [index]; simp [List.isPrefixOf]
      rw [if_pos rfl, hix]
      simp [cutAll]
    · have hp : ([c] : List UInt8).isPrefixOf (b :: l) = false := by simp [List.isPrefixOf, Ne.symm h]
      have hix : index (b :: l) [c] = if index l [c] == -1 then -1 else index l [c] + 1 := by rw [index, hp]; simp
      rw [if_neg h, cutAux_index c l (cur ++ [b]), hix]
      by_cases hm : index l [c] = -1
      · simp [hm]
      · have hge := index_ge l [c]
        obtain ⟨j, hj⟩ : ∃ j : Nat, index l [c] = j := ⟨(index l [c]).toNat, by omega⟩
        rw [hj]
        have e1 : ((j : Int) == -1) = false := by rw [beq_eq_false_iff_ne]; omega
        have e2 : ((j : Int) + 1 == -1) = false := by rw [beq_eq_false_iff_ne]; omega
        have e3 : ((j : Int) + 1).toNat = j + 1 := by omega
        simp only [e1, e2, e3, Bool.false_eq_true, if_false, Int.toNat_natCast, List.take_succ_cons, List.append_assoc, List.singleton_append, List.drop_succ_cons]
theorem splitK_cut (c : UInt8) : ∀ (k : Nat) (s : Bytes), count s [c] = k → splitK [c] 0 k s = cutAll c s
  | 0, s, h => by
    have hi : index s [c] = -1 := by
      by_cases hm : index s [c] = -1
      · exact hm
      · have hge := index_ge s [c]
        have := count_hit (s := s) (sub := [c]) (i := (index s [c]).toNat) (by simp) (by omega)
        omega
    unfold cutAll
    rw [cutAux_index, hi]
    rfl
  | k + 1, s, h => by
    by_cases hm : index s [c] = -1
    · rw [count_miss hm] at h; omega
    · have hge := index_ge s [c]
      obtain ⟨j, hj⟩ : ∃ j : Nat, index s [c] = j := ⟨(index s [c]).toNat, by omega⟩
      have hc := count_hit (s := s) (sub := [c]) (i := j) (by simp) hj
      have e1 : (index s [c] == -1) = false := by rw [beq_eq_false_iff_ne]; exact hm
      have e2 : (index s [c]).toNat = j := by omega
      unfold splitK cutAll
      rw [cutAux_index, e1, e2]
      simp only [Bool.false_eq_true, if_false, List.nil_append, Nat.add_zero]
      rw [splitK_cut c k _ (by rw [show j + [c].length = j + 1 from rfl] at hc ⊢; omega)]
      rfl
end Go.Proofs.YtpanoplcamdnkaaGreatDoor

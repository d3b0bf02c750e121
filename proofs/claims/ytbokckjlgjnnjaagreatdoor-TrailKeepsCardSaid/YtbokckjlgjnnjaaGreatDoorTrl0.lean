/- PlainR, PlainU, PlainX, PlainE in one text. Conditions: as each part says. -/

import Derived.Test.YtbokckjlgjnnjaaGreatDoorPlainH
import Derived.Test.YtbokckjlgjnnjaaGreatDoorCmpT
import Derived.Test.YtbokckjlgjnnjaaGreatDoorName
import Derived.Lib.Join
import Derived.Maps.Views
import Derived.Maps.OwnSet
import Derived.Sort.KeysCollected
import Derived.WideAt
import Derived.WideShapes
import Derived.Sort.Walk0
/- Plain words: recipes: what a recipe's fault is, its text, what is read of a text, what is joined, its rep; and the laws of a recipe that was made of a text. No program in sight. No conditions. -/
namespace Go.Proofs.YtbokckjlgjnnjaaGreatDoor
open Go.RowKit Go.Lib

abbrev Idn := Nat × Int
abbrev IdL := List Idn
structure Rcp where
  name : Bytes
  len : Int
  print : Nat
  ids : IdL
def idOf (p : Bytes) : Idn := (prOf p, (p.length : Int))
def idsOf (s : Bytes) : IdL := (pieces s).map idOf
def rcpOf (name s : Bytes) : Rcp := ⟨name, s.length, prOf s, idsOf s⟩
def rcpZero : Rcp := ⟨[], 0, 0, []⟩
/-- the fault of the pieces from the i-th on; n bytes lie ahead -/
def idsFault (len : Int) : Nat → Int → IdL → Int × Int
  | _, n, [] => if n = len then (0, -1) else (9, -1)
  | i, n, x :: r => if x.2 < 1 ∨ 64 < x.2 then (3, (i : Int)) else idsFault len (i + 1) (n + x.2) r
def rcpFault (r : Rcp) : Int × Int :=
  if isName r.name = false then (4, -1) else if r.len < 0 ∨ 4000 < r.len then (2, -1) else if 250 < r.ids.length then (7, -1) else idsFault r.len 0 0 r.ids
def joinMis : Nat → List Bytes → IdL → Option Nat
  | i, p :: ls, x :: r => if idOf p = x then joinMis (i + 1) ls r else some i
  | _, _, _ => none
def joinEnd (r : Rcp) (ls : List Bytes) : Option Nat → Bytes × Int × Int
  | some i => ([], 9, (i : Int))
  | none => if prOf ls.flatten = r.print then (ls.flatten, 0, -1) else ([], 9, -1)
def joinRes (r : Rcp) (ls : List Bytes) : Bytes × Int × Int :=
  if (rcpFault r).1 ≠ 0 then ([], rcpFault r) else if ls.length ≠ r.ids.length then ([], 3, -1) else joinEnd r ls (joinMis 0 ls r.ids)
def lesser (x m : Idn) : Bool := lessId x.1 m.1 x.2 m.2
def repFrom : Idn → IdL → Idn
  | m, [] => m
  | m, x :: r => repFrom (if lesser x m then x else m) r
def repOf : IdL → Idn
  | [] => idOf []
  | x :: r => repFrom x r
def idsText : IdL → Bytes
  | [] => []
  | x :: r => 32 :: (idText x.1 x.2 ++ idsText r)
def rcpText (r : Rcp) : Bytes := r.name ++ 32 :: (itoa r.len ++ 32 :: (hex8 r.print ++ idsText r.ids))
def readIds : List Bytes → Option IdL
  | [] => some []
  | x :: r => match readId x with
    | some (n, k) => match readIds r with
      | some l => some ((n, (k : Int)) :: l)
      | none => none
    | none => none
def readEnd (a : Bytes) (n p : Nat) : Option IdL → Except (Int × Int) Rcp
  | some ids => if (rcpFault ⟨a, n, p, ids⟩).1 = 0 then .ok ⟨a, n, p, ids⟩ else .error (rcpFault ⟨a, n, p, ids⟩)
  | none => .error (1, -1)
def readWs : List Bytes → Except (Int × Int) Rcp
  | a :: b :: c :: ws => match numOf b 6, unhexOf c with
    | some n, some p => readEnd a n p (readIds ws)
    | _, _ => .error (1, -1)
  | _ => .error (1, -1)
def readRcp (t : Bytes) : Except (Int × Int) Rcp := if 40000 < t.length then .error (2, -1) else readWs (cutAll 32 t)

/-! ### faults -/
theorem idsFault_two (len : Int) (L : IdL) : ∀ i n, (idsFault len i n L).1 = 0 → idsFault len i n L = (0, -1) := by
  induction L with
  | nil => intro i n h; unfold idsFault at h ⊢; split at h <;> simp_all
  | cons x r ih => intro i n h; unfold idsFault at h ⊢; split at h; · cases h
                   rename_i hc; rw [if_neg hc]; exact ih _ _ h
theorem rcpFault_two {r : Rcp} (h : (rcpFault r).1 = 0) : rcpFault r = (0, -1) := by
  unfold rcpFault at h ⊢
  split at h
  · cases h
  · rename_i h1
    rw [if_neg h1]
    split at h
    · cases h
    · rename_i h2
      rw [if_neg h2]
      split at h
      · cases h
      · rename_i h3
        rw [if_neg h3]
        exact idsFault_two _ _ _ _ h
theorem rcpFault_name {r : Rcp} (h : (rcpFault r).1 = 0) : isName r.name = true ∧ 0 ≤ r.len ∧ r.len ≤ 4000 ∧ r.ids.length ≤ 250 ∧ idsFault r.len 0 0 r.ids = (0, -1) := by
  have h0 := rcpFault_two h
  unfold rcpFault at h0
  split at h0
  · cases h0
  · split at h0
    · cases h0
    · split at h0
      · cases h0
      · rename_i h1 h2 h3
        exact ⟨by simpa using h1, by omega, by omega, by omega, h0⟩
theorem idsFault_lens (len : Int) (L : IdL) : ∀ i n, (idsFault len i n L).1 = 0 → ∀ x ∈ L, 1 ≤ x.2 ∧ x.2 ≤ 64 := by
  induction L with
  | nil => intro _ _ _ x hx; cases hx
  | cons y r ih =>
    intro i n h x hx
    unfold idsFault at h
    split at h
    · cases h
    · rename_i hc
      rcases List.mem_cons.1 hx with rfl | hx
      · omega
      · exact ih _ _ h x hx
theorem idsFault_code (len : Int) (L : IdL) : ∀ i n, (idsFault len i n L).1 = 0 ∨ (idsFault len i n L).1 = 3 ∨ (idsFault len i n L).1 = 9 := by
  induction L with
  | nil => intro i n; unfold idsFault; split <;> simp
  | cons y r ih => intro i n; unfold idsFault; split; · simp
                   exact ih _ _
theorem rcpFault_code (r : Rcp) : (rcpFault r).1 = 0 ∨ (rcpFault r).1 = 2 ∨ (rcpFault r).1 = 3 ∨ (rcpFault r).1 = 4 ∨ (rcpFault r).1 = 7 ∨ (rcpFault r).1 = 9 := by
  unfold rcpFault
  split
  · simp
  · split
    · simp
    · split
      · simp
      · rcases idsFault_code r.len r.ids 0 0 with h | h | h <;> simp [h]
theorem idsFault_of (len : Int) (ps : List Bytes) (h : ∀ p ∈ ps, p ≠ [] ∧ p.length ≤ 64) : ∀ i n, n + (ps.flatten.length : Int) = len → idsFault len i n (ps.map idOf) = (0, -1) := by
  induction ps with
  | nil => intro i n hn; simp at hn; unfold idsFault; rw [List.map_nil]; simp [hn]
  | cons p r ih =>
    intro i n hn
    obtain ⟨h1, h2⟩ := h p (List.mem_cons_self ..)
    have h3 : 0 < p.length := List.length_pos_iff.2 h1
    rw [List.map_cons]
    unfold idsFault
    rw [if_neg (by show ¬ ((p.length : Int) < 1 ∨ 64 < (p.length : Int)); omega)]
    refine ih (fun q hq => h q (List.mem_cons_of_mem _ hq)) _ _ ?_
    show n + (p.length : Int) + _ = len
    rw [List.flatten_cons, List.length_append] at hn
    omega
theorem pcs_len (cur r : Bytes) : 16 * (pcs cur r).length ≤ cur.length + r.length + 15 := by
  induction r generalizing cur with
  | nil => simp [pcs]
  | cons b r ih =>
    rw [pcs_cons]
    split
    · rename_i he
      have h1 := endsB_len he
      have h2 := ih []
      simp at h1 h2 ⊢
      omega
    · split
      · simp; omega
      · have h2 := ih (cur ++ [b])
        simp at h2 ⊢
        omega
theorem pieces_len (s : Bytes) : 16 * (pieces s).length ≤ s.length + 15 := by
  have := pcs_len [] s
  simp at this
  exact this
theorem rcpFault_of {name s : Bytes} (hn : isName name = true) (hs : s.length ≤ 4000) : rcpFault (rcpOf name s) = (0, -1) := by
  unfold rcpFault rcpOf
  have h1 := pieces_len s
  rw [if_neg (by simp [hn]), if_neg (by simp only; omega), if_neg (by simp only [idsOf, List.length_map]; omega)]
  exact idsFault_of _ _ (fun p hp => ⟨pieces_ne s p hp, pieces_max s p hp⟩) 0 0 (by rw [pieces_flatten]; simp)
/-! ### joining -/
theorem joinMis_of (ls : List Bytes) : ∀ i, joinMis i ls (ls.map idOf) = none := by
  induction ls with
  | nil => intro i; rfl
  | cons p r ih => intro i; rw [List.map_cons]; unfold joinMis; rw [if_pos rfl]; exact ih _
theorem joinRes_of {name s : Bytes} (hn : isName name = true) (hs : s.length ≤ 4000) : joinRes (rcpOf name s) (pieces s) = (s, 0, -1) := by
  unfold joinRes
  rw [rcpFault_of hn hs, if_neg (by simp), if_neg (by simp [rcpOf, idsOf])]
  have : joinMis 0 (pieces s) (rcpOf name s).ids = none := joinMis_of _ 0
  rw [this]
  unfold joinEnd
  rw [if_pos (by rw [pieces_flatten]; rfl), pieces_flatten]
theorem joinMis_set (p : Bytes) : ∀ (ls : List Bytes) (k i : Nat) (hk : k < ls.length), idOf p ≠ idOf ls[k] → joinMis i (ls.set k p) (ls.map idOf) = some (i + k)
  | [], _, _, hk, _ => absurd hk (by simp)
  | q :: r, 0, i, _, h => by
    show joinMis i (p :: r) (idOf q :: r.map idOf) = _
    unfold joinMis
    rw [if_neg (show ¬ idOf p = idOf q from h)]; rfl
  | q :: r, k + 1, i, hk, h => by
    show joinMis i (q :: r.set k p) (idOf q :: r.map idOf) = _
    unfold joinMis
    rw [if_pos rfl, joinMis_set p r k (i + 1) (by simpa using hk) h]
    congr 1; omega
theorem joinRes_set {name s p : Bytes} (hn : isName name = true) (hs : s.length ≤ 4000) (k : Nat) (hk : k < (pieces s).length) (h : idOf p ≠ idOf (pieces s)[k]) : joinRes (rcpOf name s) ((pieces s).set k p) = ([], 9, (k : Int)) := by
  unfold joinRes
  rw [rcpFault_of hn hs, if_neg (by simp), if_neg (by simp [rcpOf, idsOf])]
  have : joinMis 0 ((pieces s).set k p) (rcpOf name s).ids = some (0 + k) := joinMis_set p _ k 0 hk h
  rw [this]
  simp [joinEnd]
/-! ### the rep -/
theorem lesser_irrefl (x : Idn) : lesser x x = false := by unfold lesser lessId; simp
theorem lesser_false {x y : Idn} : lesser x y = false ↔ y.1 < x.1 ∨ (y.1 = x.1 ∧ y.2 ≤ x.2) := by
  unfold lesser lessId
  by_cases h : x.1 = y.1
  · simp [h]
  · rw [if_pos h, decide_eq_false_iff_not]
    omega
theorem lesser_true {x y : Idn} : lesser x y = true ↔ x.1 < y.1 ∨ (x.1 = y.1 ∧ x.2 < y.2) := by
  unfold lesser lessId
  by_cases h : x.1 = y.1
  · simp [h]
  · rw [if_pos h, decide_eq_true_eq]
    omega
theorem repFrom_mem (L : IdL) : ∀ m, repFrom m L = m ∨ repFrom m L ∈ L := by
  induction L with
  | nil => intro m; exact .inl rfl
  | cons x r ih =>
    intro m
    show repFrom (if lesser x m then x else m) r = m ∨ _
    rcases ih (if lesser x m then x else m) with h | h
    · rw [show repFrom m (x :: r) = repFrom (if lesser x m then x else m) r from rfl, h]
      split
      · exact .inr (List.mem_cons_self ..)
      · exact .inl rfl
    · exact .inr (List.mem_cons_of_mem _ h)
theorem repFrom_le (L : IdL) : ∀ m, lesser m (repFrom m L) = false ∧ ∀ x ∈ L, lesser x (repFrom m L) = false := by
  induction L with
  | nil => intro m; exact ⟨lesser_irrefl m, fun x hx => by cases hx⟩
  | cons y r ih =>
    intro m
    obtain ⟨h1, h2⟩ := ih (if lesser y m then y else m)
    have e : repFrom m (y :: r) = repFrom (if lesser y m then y else m) r := rfl
    rw [← e] at h1 h2
    generalize repFrom m (y :: r) = z at *
    by_cases hy : lesser y m = true
    · rw [if_pos hy] at h1
      rw [lesser_false] at h1
      have hy' := lesser_true.1 hy
      refine ⟨lesser_false.2 (by omega), fun x hx => ?_⟩
      rcases List.mem_cons.1 hx with rfl | hx
      · exact lesser_false.2 h1
      · exact h2 x hx
    · rw [if_neg hy] at h1
      have hy' := lesser_false.1 (by simpa using hy)
      rw [lesser_false] at h1
      refine ⟨lesser_false.2 h1, fun x hx => ?_⟩
      rcases List.mem_cons.1 hx with rfl | hx
      · exact lesser_false.2 (by omega)
      · exact h2 x hx
theorem repOf_mem {L : IdL} (h : L ≠ []) : repOf L ∈ L := by
  cases L with
  | nil => exact absurd rfl h
  | cons x r =>
    rcases repFrom_mem r x with h | h
    · show repFrom x r ∈ _; rw [h]; exact List.mem_cons_self ..
    · exact List.mem_cons_of_mem _ h
theorem repOf_le (L : IdL) : ∀ x ∈ L, lesser x (repOf L) = false := by
  cases L with
  | nil => intro x hx; cases hx
  | cons y r =>
    intro x hx
    rcases List.mem_cons.1 hx with rfl | hx
    · exact (repFrom_le r _).1
    · exact (repFrom_le r y).2 x hx
/-! ### reading what was written -/
theorem name_no32 {l : Bytes} (h : isName l = true) : (32 : UInt8) ∉ l := fun hm => by
  unfold isName at h
  have h3 := List.all_eq_true.1 (Bool.and_eq_true_iff.1 h).2 32 hm
  exact absurd h3 (by decide)
theorem dec_no32 (u : Nat) : (32 : UInt8) ∉ decDigits u := fun hm => by
  have := decDigits_digit u 32 hm
  exact absurd this.1 (by decide)
theorem hexc_no32 (d : Nat) (h : d < 16) : hexc d ≠ 32 := (show ∀ e : Fin 16, hexc e.1 ≠ 32 by decide) ⟨d, h⟩
theorem hex8_no32 (p : Nat) : (32 : UInt8) ∉ hex8 p := fun h => by
  unfold hex8 hexL at h
  obtain ⟨j, _, hj⟩ := List.mem_map.1 h
  exact hexc_no32 _ (Nat.mod_lt _ (by decide)) hj
theorem idText_no32 (p k : Nat) : (32 : UInt8) ∉ idText p (k : Int) := fun h => by
  unfold idText at h
  rw [if_neg (by omega), itoa_nat] at h
  rcases List.mem_append.1 h with h | h
  · exact hex8_no32 p h
  · rcases List.mem_cons.1 h with h | h
    · cases h
    · exact dec_no32 k h
theorem cut_last (b : UInt8) (l : Bytes) (h : b ∉ l) : cutAll b l = [l] := by
  unfold cutAll; rw [cutAux_none b l [] h]; rfl
theorem cut_more (b : UInt8) (d r : Bytes) (h : b ∉ d) : cutAll b (d ++ b :: r) = d :: cutAll b r := by
  unfold cutAll; rw [cutAux_some b d r [] h]; rfl
theorem cut_ids (b : UInt8) : ∀ (L : IdL) (d : Bytes), (32 : UInt8) ∉ d → (∀ x ∈ L, 0 ≤ x.2) → cutAll 32 (d ++ idsText L) = d :: L.map fun x => idText x.1 x.2
  | [], d, hd, _ => by show cutAll 32 (d ++ []) = [d]; rw [List.append_nil]; exact cut_last _ _ hd
  | x :: r, d, hd, h => by
    show cutAll 32 (d ++ 32 :: (idText x.1 x.2 ++ idsText r)) = d :: idText x.1 x.2 :: _
    have hx := h x (List.mem_cons_self ..)
    obtain ⟨k, hk⟩ : ∃ k : Nat, x.2 = k := ⟨x.2.toNat, by omega⟩
    rw [cut_more _ _ _ hd, cut_ids b r _ (by rw [hk]; exact idText_no32 _ _) (fun y hy => h y (List.mem_cons_of_mem _ hy))]
theorem readIds_text : ∀ (L : IdL), (∀ x ∈ L, x.1 < 4294967296 ∧ 0 ≤ x.2 ∧ x.2 < 1000000) → readIds (L.map fun x => idText x.1 x.2) = some L
  | [], _ => rfl
  | x :: r, h => by
    obtain ⟨h1, h2, h3⟩ := h x (List.mem_cons_self ..)
    obtain ⟨k, hk⟩ : ∃ k : Nat, x.2 = k := ⟨x.2.toNat, by omega⟩
    show readIds (idText x.1 x.2 :: r.map fun x => idText x.1 x.2) = _
    unfold readIds
    rw [hk, readId_text x.1 k h1 (by omega), readIds_text r (fun y hy => h y (List.mem_cons_of_mem _ hy))]
    simp only
    rw [← hk]
theorem idText_le {x : Idn} (h0 : 0 ≤ x.2) (h1 : x.2 ≤ 64) : (idText x.1 x.2).length ≤ 11 := by
  obtain ⟨k, hk⟩ : ∃ k : Nat, x.2 = k := ⟨x.2.toNat, by omega⟩
  unfold idText
  rw [if_neg (by omega), hk, itoa_nat, List.length_append, List.length_cons, show (hex8 x.1).length = 8 from hexL_length _ _, decDigits_length]
  have := nDigits_le_of k 1 (by omega)
  omega
theorem idsText_le : ∀ (L : IdL), (∀ x ∈ L, 1 ≤ x.2 ∧ x.2 ≤ 64) → (idsText L).length ≤ 12 * L.length
  | [], _ => by simp [idsText]
  | x :: r, h => by
    have h1 := h x (List.mem_cons_self ..)
    have h2 := idsText_le r (fun y hy => h y (List.mem_cons_of_mem _ hy))
    have h3 := idText_le (x := x) (by omega) h1.2
    show (32 :: (idText x.1 x.2 ++ idsText r)).length ≤ _
    rw [List.length_cons, List.length_append, List.length_cons]
    omega
theorem isName_le {l : Bytes} (h : isName l = true) : l.length ≤ 12 := by
  unfold isName at h
  have := (Bool.and_eq_true_iff.1 (Bool.and_eq_true_iff.1 h).1).2
  exact of_decide_eq_true this
theorem itoa_le4 {n : Int} (h0 : 0 ≤ n) (h1 : n ≤ 4000) : (itoa n).length ≤ 4 := by
  obtain ⟨k, hk⟩ : ∃ k : Nat, n = k := ⟨n.toNat, by omega⟩
  rw [hk, itoa_nat, decDigits_length]
  exact nDigits_le_of k 3 (by omega)
theorem rcpText_le {r : Rcp} (h : (rcpFault r).1 = 0) : (rcpText r).length ≤ 4000 := by
  obtain ⟨h1, h2, h3, h4, h5⟩ := rcpFault_name h
  have h6 := idsText_le r.ids (idsFault_lens _ _ 0 0 (by rw [h5]))
  have h7 := isName_le h1
  have h8 := itoa_le4 h2 h3
  unfold rcpText
  rw [List.length_append, List.length_cons, List.length_append, List.length_cons, List.length_append, show (hex8 r.print).length = 8 from hexL_length _ _]
  omega
theorem readRcp_text {r : Rcp} (h : (rcpFault r).1 = 0) (hp : r.print < 4294967296) (hi : ∀ x ∈ r.ids, x.1 < 4294967296) : readRcp (rcpText r) = .ok r := by
  obtain ⟨h1, h2, h3, h4, h5⟩ := rcpFault_name h
  have h6 := idsFault_lens _ _ 0 0 (show (idsFault r.len 0 0 r.ids).1 = 0 by rw [h5])
  have h9 := rcpText_le h
  obtain ⟨k, hk⟩ : ∃ k : Nat, r.len = k := ⟨r.len.toNat, by omega⟩
  unfold readRcp
  rw [if_neg (by omega)]
  unfold rcpText
  rw [cut_more _ _ _ (name_no32 h1), cut_more _ _ _ (by rw [hk, itoa_nat]; exact dec_no32 k), cut_ids 32 _ _ (hex8_no32 _) (fun x hx => by have := h6 x hx; omega)]
  unfold readWs
  have e1 : numOf (itoa r.len) 6 = some k := by rw [hk, itoa_nat]; exact numOf_dec k 6 (by omega) (by rw [decDigits_length]; exact nDigits_le_of k 5 (by omega))
  have e2 : (⟨r.name, (k : Int), r.print, r.ids⟩ : Rcp) = r := by rw [← hk]
  simp only [e1, unhexOf_hex8 _ hp, readIds_text _ (fun x hx => ⟨hi x hx, by have := h6 x hx; omega, by have := h6 x hx; omega⟩), readEnd, e2]
  rw [if_pos h]
theorem idsOf_lt (s : Bytes) : ∀ x ∈ idsOf s, x.1 < 4294967296 := by
  intro x hx
  obtain ⟨p, _, rfl⟩ := List.mem_map.1 hx
  exact prOf_lt p
/-! ### a text's words, joined with a blank -/
theorem joinTail_ids : ∀ (L : IdL), joinTail [32] (L.map fun x => idText x.1 x.2) = idsText L
  | [] => rfl
  | x :: r => by
    show ([32] ++ idText x.1 x.2) ++ joinTail [32] (r.map fun x => idText x.1 x.2) = 32 :: (idText x.1 x.2 ++ idsText r)
    rw [joinTail_ids r]; simp
theorem join_text (r : Rcp) : join ([r.name, itoa r.len, hex8 r.print] ++ r.ids.map fun x => idText x.1 x.2) [32] = rcpText r := by
  show join (r.name :: itoa r.len :: hex8 r.print :: r.ids.map fun x => idText x.1 x.2) [32] = rcpText r
  rw [join_cons]
  show r.name ++ (([32] ++ itoa r.len) ++ (([32] ++ hex8 r.print) ++ joinTail [32] _)) = _
  rw [joinTail_ids]
  unfold rcpText
  simp
theorem joinTail_nil : ∀ (ls : List Bytes), joinTail [] ls = ls.flatten
  | [] => rfl
  | x :: r => by show ([] ++ x) ++ joinTail [] r = x ++ r.flatten; rw [joinTail_nil r]; rfl
theorem join_flat (ls : List Bytes) : join ls [] = ls.flatten := by
  cases ls with
  | nil => rfl
  | cons x r => rw [join_cons, joinTail_nil]; rfl
/-! ### strings.Split at a byte is the document's cutting -/
theorem cutAux_index (c : UInt8) : ∀ (s cur : Bytes), cutAux c cur s = if index s [c] == -1 then [cur ++ s] else (cur ++ s.take (index s [c]).toNat) :: cutAll c (s.drop ((index s [c]).toNat + 1))
  | [], cur => by
    have : index ([] : Bytes) [c] = -1 := by simp [index]
    rw [this]; simp [cutAux]
  | b :: l, cur => by
    rw [cutAux]
    by_cases h : b = c
    · subst h
      have hix : index (b :: l) [b] = 0 := by rw [index]; simp [List.isPrefixOf]
      rw [if_pos rfl, hix]
      simp [cutAll]
    · have hp : ([c] : List UInt8).isPrefixOf (b :: l) = false := by simp [List.isPrefixOf, Ne.symm h]
      have hix : index (b :: l) [c] = if index l [c] == -1 then -1 else index l [c] + 1 := by rw [index, hp]; simp
      rw [if_neg h, cutAux_index c l (cur ++ [b]), hix]
      by_cases hm : index l [c] = -1
      · simp [hm]
      · have hge := index_ge l [c]
        obtain ⟨j, hj⟩ : ∃ j : Nat, index l [c] = j := ⟨(index l [c]).toNat, by omega⟩
        rw [hj]
        have e1 : ((j : Int) == -1) = false := by rw [beq_eq_false_iff_ne]; omega
        have e2 : ((j : Int) + 1 == -1) = false := by rw [beq_eq_false_iff_ne]; omega
        have e3 : ((j : Int) + 1).toNat = j + 1 := by omega
        simp only [e1, e2, e3, Bool.false_eq_true, if_false, Int.toNat_natCast, List.take_succ_cons, List.append_assoc, List.singleton_append, List.drop_succ_cons]
theorem splitK_cut (c : UInt8) : ∀ (k : Nat) (s : Bytes), count s [c] = k → splitK [c] 0 k s = cutAll c s
  | 0, s, h => by
    have hi : index s [c] = -1 := by
      by_cases hm : index s [c] = -1
      · exact hm
      · have hge := index_ge s [c]
        have := count_hit (s := s) (sub := [c]) (i := (index s [c]).toNat) (by simp) (by omega)
        omega
    unfold cutAll
    rw [cutAux_index, hi]
    rfl
  | k + 1, s, h => by
    by_cases hm : index s [c] = -1
    · rw [count_miss hm] at h; omega
    · have hge := index_ge s [c]
      obtain ⟨j, hj⟩ : ∃ j : Nat, index s [c] = j := ⟨(index s [c]).toNat, by omega⟩
      have hc := count_hit (s := s) (sub := [c]) (i := j) (by simp) hj
      have e1 : (index s [c] == -1) = false := by rw [beq_eq_false_iff_ne]; exact hm
      have e2 : (index s [c]).toNat = j := by omega
      unfold splitK cutAll
      rw [cutAux_index, e1, e2]
      simp only [Bool.false_eq_true, if_false, List.nil_append, Nat.add_zero]
      rw [splitK_cut c k _ (by rw [show j + [c].length = j + 1 from rfl] at hc ⊢; omega)]
      rfl
end Go.Proofs.YtbokckjlgjnnjaaGreatDoor
/- Plain words of a table as a sorted list: look-up, putting, and the datum that the map reads as. No program in sight. No conditions. -/
namespace Go.Proofs.YtbokckjlgjnnjaaGreatDoor
open Go.Maps Go.Sort

abbrev TbB := List UInt8
abbrev Tb := List (TbB × Int × TbB)
def ansU (n : Int) (s : TbB) : DataW Unit := .agg [.lit (.int .i64 n), .lit (.string s)]
def dataOf (L : Tb) : DataW Unit := .map (L.map fun x => (.string x.1, ansU x.2.1 x.2.2))
/-- the clients stand in order -/
def Srt (L : Tb) : Prop := (L.map (·.1)).Pairwise (fun a b => bytesBefore a b = true)
def getL (L : Tb) (t : TbB) : Option (Int × TbB) := (L.find? (fun x => x.1 == t)).map (·.2)
def putL (t : TbB) (n : Int) (s : TbB) : Tb → Tb
  | [] => [(t, n, s)]
  | y :: r => if y.1 = t then (t, n, s) :: r else if bytesBefore t y.1 = true then (t, n, s) :: y :: r else y :: putL t n s r
theorem has_data (L : Tb) (t : TbB) : Maps.has (dataOf L) (.string t) = (getL L t).isSome := by
  unfold dataOf getL
  rw [Maps.has_eq]
  induction L with
  | nil => rfl
  | cons y r ih =>
    rw [List.map_cons, List.any_cons, ih]
    cases h : (y.1 == t) with
    | true => simp [Lit.sameKey, List.find?, h]
    | false => simp [Lit.sameKey, List.find?, h]
theorem atKey_data (L : Tb) (t : TbB) : (dataOf L).atKey (.string t) (ansU 0 []) = ansU ((getL L t).getD (0, [])).1 ((getL L t).getD (0, [])).2 := by
  unfold dataOf getL DataW.atKey
  induction L with
  | nil => rfl
  | cons y r ih =>
    cases h : (y.1 == t) with
    | true => simp [Lit.sameKey, List.find?, h]
    | false =>
      simp only [List.map_cons, List.find?, Lit.sameKey, h] at ih ⊢
      exact ih
theorem size_data (L : Tb) : Maps.size (dataOf L) = L.length := by simp [dataOf, Maps.size]
theorem keys_data (L : Tb) : strKeys (dataOf L) = L.map (·.1) := by
  show (L.map fun x => ((Lit.string x.1, ansU x.2.1 x.2.2) : Lit × DataW Unit)).map (fun p => strOf p.1) = _
  rw [List.map_map]
  rfl
theorem filter_none {r : Tb} {t : TbB} (h : ∀ x ∈ r, x.1 ≠ t) : ((r.map fun x => ((Lit.string x.1, ansU x.2.1 x.2.2) : Lit × DataW Unit)).filter fun p => !p.1.sameKey (.string t)) = r.map fun x => (Lit.string x.1, ansU x.2.1 x.2.2) := by
  rw [List.filter_eq_self]
  intro p hp
  obtain ⟨x, hx, rfl⟩ := List.mem_map.1 hp
  have := h x hx
  simp [Lit.sameKey, this]
theorem srt_ne {y : TbB × Int × TbB} {r : Tb} (h : Srt (y :: r)) : ∀ x ∈ r, bytesBefore y.1 x.1 = true := by
  unfold Srt at h
  rw [List.map_cons, List.pairwise_cons] at h
  exact fun x hx => h.1 x.1 (List.mem_map_of_mem hx)
theorem srt_tail {y : TbB × Int × TbB} {r : Tb} (h : Srt (y :: r)) : Srt r := by
  unfold Srt at h ⊢
  rw [List.map_cons, List.pairwise_cons] at h
  exact h.2
theorem before_ne {a b : TbB} (h : bytesBefore a b = true) : a ≠ b := fun e => by
  subst e
  rw [WideAt.bytes_irrefl] at h
  cases h
theorem put_data (L : Tb) (hs : Srt L) (t : TbB) (n : Int) (s : TbB) : (dataOf L).put (.string t) (ansU n s) = dataOf (putL t n s L) := by
  unfold dataOf DataW.put
  simp only
  congr 1
  induction L with
  | nil => rfl
  | cons y r ih =>
    have hne := srt_ne hs
    unfold putL
    by_cases h : y.1 = t
    · rw [if_pos h]
      subst h
      rw [List.map_cons, List.filter_cons, if_neg (by simp [Lit.sameKey]), filter_none (fun x hx => (before_ne (hne x hx)).symm)]
      cases r with
      | nil => rfl
      | cons z q =>
        have hz := hne z List.mem_cons_self
        simp [DataW.insert, Lit.before, hz]
    · rw [if_neg h, List.map_cons, List.filter_cons, if_pos (by simp [Lit.sameKey, h])]
      by_cases hb : bytesBefore t y.1 = true
      · rw [if_pos hb, filter_none (fun x hx => (before_ne (WideShapes.bytes_trans _ _ _ hb (hne x hx))).symm)]
        simp [DataW.insert, Lit.before, hb]
      · rw [if_neg hb]
        have hb' : bytesBefore t y.1 = false := by simpa using hb
        rw [List.map_cons, ← ih (srt_tail hs)]
        simp [DataW.insert, Lit.before, hb']
theorem mem_putL {t : TbB} {n : Int} {s : TbB} {L : Tb} {x : TbB × Int × TbB} (h : x ∈ putL t n s L) : x = (t, n, s) ∨ x ∈ L := by
  induction L with
  | nil => left; simpa [putL] using h
  | cons y r ih =>
    unfold putL at h
    split at h
    · rcases List.mem_cons.1 h with h | h
      · exact .inl h
      · exact .inr (List.mem_cons_of_mem _ h)
    · split at h
      · rcases List.mem_cons.1 h with h | h
        · exact .inl h
        · exact .inr h
      · rcases List.mem_cons.1 h with h | h
        · exact .inr (h ▸ List.mem_cons_self)
        · rcases ih h with h | h
          · exact .inl h
          · exact .inr (List.mem_cons_of_mem _ h)
theorem srt_cons {y : TbB × Int × TbB} {r : Tb} (h : ∀ x ∈ r, bytesBefore y.1 x.1 = true) (hr : Srt r) : Srt (y :: r) := by
  unfold Srt at hr ⊢
  rw [List.map_cons, List.pairwise_cons]
  refine ⟨fun b hb => ?_, hr⟩
  obtain ⟨x, hx, rfl⟩ := List.mem_map.1 hb
  exact h x hx
theorem srt_putL {L : Tb} (hs : Srt L) (t : TbB) (n : Int) (s : TbB) : Srt (putL t n s L) := by
  induction L with
  | nil => simp [putL, Srt]
  | cons y r ih =>
    have hne := srt_ne hs
    unfold putL
    by_cases h : y.1 = t
    · rw [if_pos h]; subst h; exact srt_cons hne (srt_tail hs)
    · rw [if_neg h]
      by_cases hb : bytesBefore t y.1 = true
      · rw [if_pos hb]
        refine srt_cons (fun x hx => ?_) hs
        rcases List.mem_cons.1 hx with rfl | hx
        · exact hb
        · exact WideShapes.bytes_trans _ _ _ hb (hne x hx)
      · rw [if_neg hb]
        refine srt_cons (fun x hx => ?_) (ih (srt_tail hs))
        rcases mem_putL hx with rfl | hx
        · rcases WideAt.bytes_total y.1 t h with h1 | h1
          · exact h1
          · exact absurd h1 hb
        · exact hne x hx
theorem length_putL (t : TbB) (n : Int) (s : TbB) (L : Tb) : (putL t n s L).length ≤ L.length + 1 := by
  induction L with
  | nil => simp [putL]
  | cons y r ih =>
    unfold putL
    split
    · simp
    · split
      · simp
      · simp only [List.length_cons]; omega
end Go.Proofs.YtbokckjlgjnnjaaGreatDoor
/- Plain words of a table as a sorted list: its order is Go's; where a client stands; putting by the place. No program in sight. No conditions. -/
namespace Go.Proofs.YtbokckjlgjnnjaaGreatDoor
open Go.Maps Go.Sort

theorem before_less : ∀ (a b : TbB), bytesBefore a b = Op.bytesLess a b
  | [], [] => rfl
  | [], _ :: _ => rfl
  | _ :: _, [] => rfl
  | a :: r, b :: s => by
    show (decide (a < b) || (a == b && bytesBefore r s)) = (decide (a < b) || (a == b && Op.bytesLess r s))
    rw [before_less r s]
theorem before_lt (a b : TbB) : bytesBefore a b = decide (a < b) := (before_less a b).trans (bytesLess_eq a b)
theorem sort_keys {L : Tb} (hs : Srt L) {ss : List TbB} (h : ss.Perm (L.map (·.1))) : ss.mergeSort (fun x y => decide (x ≤ y)) = L.map (·.1) := by
  refine (mergeSort_of_perm h).trans (List.mergeSort_of_pairwise ?_)
  refine List.Pairwise.imp (fun {a b} hab => ?_) hs
  rw [before_lt] at hab
  exact decide_eq_true (List.le_of_lt (of_decide_eq_true hab))
theorem getL_at {L : Tb} {t : TbB} {k : Nat} (hk : k < L.length) (he : L[k].1 = t) (hno : ∀ j (hj : j < L.length), j < k → L[j].1 ≠ t) : getL L t = some L[k].2 := by
  unfold getL
  induction L generalizing k with
  | nil => simp at hk
  | cons y r ih =>
    cases k with
    | zero =>
      simp only [List.getElem_cons_zero] at he ⊢
      simp [List.find?, he]
    | succ k =>
      have h0 : y.1 ≠ t := hno 0 (by simp) (by omega)
      have hf : (y.1 == t) = false := by simpa using h0
      simp only [List.find?, hf, List.getElem_cons_succ] at he ⊢
      exact ih (by simpa using hk) he (fun j hj h => hno (j + 1) (Nat.succ_lt_succ hj) (by omega))
theorem getL_none {L : Tb} {t : TbB} (hno : ∀ j (hj : j < L.length), L[j].1 ≠ t) : getL L t = none := by
  unfold getL
  rw [List.find?_eq_none.2 (fun x hx => ?_)]
  · rfl
  · obtain ⟨j, hj, rfl⟩ := List.getElem_of_mem hx
    simpa using hno j hj
theorem putL_set {L : Tb} (hs : Srt L) {t : TbB} {n : Int} {s : TbB} {k : Nat} (hk : k < L.length) (he : L[k].1 = t) : putL t n s L = L.set k (t, n, s) := by
  induction L generalizing k with
  | nil => simp at hk
  | cons y r ih =>
    cases k with
    | zero =>
      simp only [List.getElem_cons_zero] at he
      unfold putL
      rw [if_pos he]; rfl
    | succ k =>
      simp only [List.getElem_cons_succ] at he
      have hk' : k < r.length := by simpa using hk
      have hb : bytesBefore y.1 t = true := by rw [← he]; exact srt_ne hs _ (List.getElem_mem hk')
      have hnb : ¬ bytesBefore t y.1 = true := fun h => by
        have := WideShapes.bytes_trans _ _ _ hb h
        rw [WideAt.bytes_irrefl] at this
        cases this
      unfold putL
      rw [if_neg (before_ne hb), if_neg hnb, ih (srt_tail hs) hk' he]; rfl
theorem putL_ins {L : Tb} {t : TbB} {n : Int} {s : TbB} {k : Nat} (hk : k ≤ L.length) (h1 : ∀ j (hj : j < L.length), j < k → bytesBefore L[j].1 t = true) (h2 : ∀ (hj : k < L.length), bytesBefore L[k].1 t = false)
    (hno : ∀ j (hj : j < L.length), L[j].1 ≠ t) : putL t n s L = L.take k ++ (t, n, s) :: L.drop k := by
  induction L generalizing k with
  | nil => simp [putL]
  | cons y r ih =>
    have hy : y.1 ≠ t := hno 0 (by simp)
    unfold putL
    rw [if_neg hy]
    cases k with
    | zero =>
      have hb := h2 (by simp)
      simp only [List.getElem_cons_zero] at hb
      rcases WideAt.bytes_total y.1 t hy with h | h
      · rw [hb] at h; cases h
      · rw [if_pos h]; rfl
    | succ k =>
      have hb : bytesBefore y.1 t = true := h1 0 (by simp) (by omega)
      have hnb : ¬ bytesBefore t y.1 = true := fun h => by
        have := WideShapes.bytes_trans _ _ _ hb h
        rw [WideAt.bytes_irrefl] at this
        cases this
      rw [if_neg hnb, ih (by simpa using hk) (fun j hj h => h1 (j + 1) (Nat.succ_lt_succ hj) (by omega)) (fun hj => h2 (Nat.succ_lt_succ hj)) (fun j hj => hno (j + 1) (Nat.succ_lt_succ hj))]
      rfl
end Go.Proofs.YtbokckjlgjnnjaaGreatDoor
/- Plain words of a trail: an entry's error, a trail's fault, what is added, the last one at a day, what is kept, the names; and their laws. No program in sight. No conditions. -/
namespace Go.Proofs.YtbokckjlgjnnjaaGreatDoor
open Go.RowKit Go.Lib Go.Maps Go.Sort

structure Ent where
  day : Int
  r : Rcp
abbrev EntL := List Ent
def entErr (e : Ent) (was : Int) : Int := if e.day < 0 then 2 else if e.day < was then 8 else (rcpFault e.r).1
/-- the day ahead of the k-th entry -/
def wasAt (l : EntL) : Nat → Int
  | 0 => 0
  | k + 1 => (l[k]?.map (·.day)).getD 0
def trailFrom : Nat → Int → EntL → Int × Int
  | _, _, [] => (0, -1)
  | i, was, e :: r => if entErr e was ≠ 0 then (entErr e was, (i : Int)) else trailFrom (i + 1) e.day r
def trailFault (l : EntL) : Int × Int := if 40 < l.length then (7, -1) else trailFrom 0 0 l
def addRes (l : EntL) (x : Ent) : (Int × Int) × EntL :=
  if (trailFault l).1 ≠ 0 then (trailFault l, []) else if 40 ≤ l.length then ((7, -1), []) else if entErr x (wasAt l l.length) ≠ 0 then ((entErr x (wasAt l l.length), -1), []) else ((0, -1), l ++ [x])
def lastP (p : Ent → Bool) : EntL → Option Ent
  | [] => none
  | e :: r => (lastP p r).or (if p e = true then some e else none)
def hitE (name : Bytes) (day : Int) (e : Ent) : Bool := e.r.name == name && decide (e.day ≤ day)
def nameE (name : Bytes) (e : Ent) : Bool := e.r.name == name
def atEnd : Option Ent → (Int × Int) × Rcp
  | some e => ((0, -1), e.r)
  | none => ((5, -1), rcpZero)
def atRes (l : EntL) (name : Bytes) (day : Int) : (Int × Int) × Rcp := if (trailFault l).1 ≠ 0 then (trailFault l, rcpZero) else atEnd (lastP (hitE name day) l)
def cntN (name : Bytes) (l : EntL) : Nat := (l.filter (nameE name)).length
def keepL (many : Int) : EntL → EntL
  | [] => []
  | e :: r => if (cntN e.r.name r : Int) < many then e :: keepL many r else keepL many r
def keepRes (l : EntL) (many : Int) : (Int × Int) × EntL := if (trailFault l).1 ≠ 0 then (trailFault l, []) else if many < 0 then ((2, -1), []) else ((0, -1), keepL many l)
/-- the names, as a sorted table -/
def namesFrom : Tb → EntL → Tb
  | t, [] => t
  | t, e :: r => namesFrom (putL e.r.name 0 [] t) r
def namesT (l : EntL) : Tb := namesFrom [] l

/-! ### faults -/
theorem wasAt_succ {l : EntL} {k : Nat} (h : k < l.length) : wasAt l (k + 1) = l[k].day := by simp [wasAt, List.getElem?_eq_getElem h]
theorem trail_hit {l : EntL} {k : Nat} (h : k < l.length) (he : entErr l[k] (wasAt l k) ≠ 0) : trailFrom k (wasAt l k) (l.drop k) = (entErr l[k] (wasAt l k), (k : Int)) := by
  rw [List.drop_eq_getElem_cons h]; exact if_pos he
theorem trail_next {l : EntL} {k : Nat} (h : k < l.length) (he : entErr l[k] (wasAt l k) = 0) : trailFrom k (wasAt l k) (l.drop k) = trailFrom (k + 1) (wasAt l (k + 1)) (l.drop (k + 1)) := by
  rw [List.drop_eq_getElem_cons h, wasAt_succ h]; exact if_neg (not_not_intro he)
theorem trail_end (l : EntL) : trailFrom l.length (wasAt l l.length) (l.drop l.length) = (0, -1) := by simp [trailFrom]
theorem trailFrom_two (l : EntL) : ∀ i was, (trailFrom i was l).1 = 0 → trailFrom i was l = (0, -1) := by
  induction l with
  | nil => intro i was _; rfl
  | cons e r ih =>
    intro i was h
    unfold trailFrom at h ⊢
    split at h
    · rename_i h1; exact absurd h h1
    · rename_i h1; rw [if_neg h1]; exact ih _ _ h
theorem trailFault_two {l : EntL} (h : (trailFault l).1 = 0) : trailFault l = (0, -1) := by
  unfold trailFault at h ⊢
  split at h
  · cases h
  · rename_i h1; rw [if_neg h1]; exact trailFrom_two _ _ _ h
/-! ### the last one -/
theorem lastP_cons (p : Ent → Bool) (e : Ent) (r : EntL) : lastP p (e :: r) = (lastP p r).or (if p e = true then some e else none) := rfl
theorem lastP_append (p : Ent → Bool) (a b : EntL) : lastP p (a ++ b) = (lastP p b).or (lastP p a) := by
  induction a with
  | nil => simp [lastP]
  | cons e r ih => rw [List.cons_append, lastP_cons, lastP_cons, ih, Option.or_assoc]
theorem lastP_take {p : Ent → Bool} {l : EntL} {k : Nat} (h : k < l.length) : lastP p (l.take (k + 1)) = if p l[k] = true then some l[k] else lastP p (l.take k) := by
  rw [List.take_succ_eq_append_getElem h, lastP_append]
  unfold lastP
  by_cases hp : p l[k] = true
  · rw [if_pos hp, if_pos hp]; rfl
  · rw [if_neg hp, if_neg hp]; rfl
theorem lastP_drop {p : Ent → Bool} {l : EntL} {k : Nat} (h : k < l.length) : lastP p (l.drop k) = (lastP p (l.drop (k + 1))).or (if p l[k] = true then some l[k] else none) := by
  rw [List.drop_eq_getElem_cons h]; rfl
theorem lastP_hit {p : Ent → Bool} {l : EntL} {k : Nat} (h : k < l.length) (hp : p l[k] = true) (hn : lastP p (l.drop (k + 1)) = none) : lastP p l = some l[k] := by
  conv => lhs; rw [← List.take_append_drop k l]
  rw [lastP_append, lastP_drop h, hn, if_pos hp]; rfl
theorem lastP_miss {p : Ent → Bool} {l : EntL} {k : Nat} (h : k < l.length) (hp : p l[k] = false) (hn : lastP p (l.drop (k + 1)) = none) : lastP p (l.drop k) = none := by
  rw [lastP_drop h, hn, hp]; rfl
theorem lastP_none {p : Ent → Bool} {l : EntL} : lastP p l = none ↔ ∀ e ∈ l, p e = false := by
  induction l with
  | nil => simp [lastP]
  | cons e r ih =>
    unfold lastP
    rw [Option.or_eq_none_iff, ih]
    by_cases hp : p e = true <;> simp [hp]
theorem lastP_mem {p : Ent → Bool} {l : EntL} {e : Ent} (h : lastP p l = some e) : e ∈ l ∧ p e = true := by
  induction l with
  | nil => cases h
  | cons y r ih =>
    unfold lastP at h
    cases hr : lastP p r with
    | some z => rw [hr] at h; simp at h; subst h; exact ⟨List.mem_cons_of_mem _ (ih hr).1, (ih hr).2⟩
    | none =>
      rw [hr] at h
      by_cases hp : p y = true
      · rw [if_pos hp] at h; simp at h; subst h; exact ⟨List.mem_cons_self, hp⟩
      · rw [if_neg hp] at h; cases h
theorem lastP_day {name : Bytes} {day : Int} {l : EntL} {y : Ent} (h : lastP (nameE name) l = some y) (hd : y.day ≤ day) : lastP (hitE name day) l = some y := by
  induction l with
  | nil => cases h
  | cons e r ih =>
    unfold lastP at h ⊢
    cases hr : lastP (nameE name) r with
    | some z => rw [hr] at h; simp at h; subst h; rw [ih hr]; rfl
    | none =>
      rw [hr] at h
      have h2 : lastP (hitE name day) r = none := lastP_none.2 fun x hx => by
        have := lastP_none.1 hr x hx
        unfold nameE at this
        unfold hitE; rw [this]; rfl
      rw [h2]
      by_cases hp : nameE name e = true
      · rw [if_pos hp] at h
        simp at h
        subst h
        have : hitE name day e = true := by unfold hitE; unfold nameE at hp; rw [hp]; simpa using hd
        rw [if_pos this]; rfl
      · rw [if_neg hp] at h; cases h
/-! ### what is kept -/
theorem cntN_cons (name : Bytes) (e : Ent) (l : EntL) : cntN name (e :: l) = (if nameE name e = true then 1 else 0) + cntN name l := by
  unfold cntN
  by_cases h : nameE name e = true
  · rw [List.filter_cons_of_pos h, if_pos h, List.length_cons]; omega
  · rw [List.filter_cons_of_neg h, if_neg h]; omega
theorem cntN_nil (name : Bytes) : cntN name [] = 0 := rfl
theorem cntN_append (name : Bytes) (a b : EntL) : cntN name (a ++ b) = cntN name a + cntN name b := by unfold cntN; rw [List.filter_append, List.length_append]
theorem cntN_le (name : Bytes) (l : EntL) : cntN name l ≤ l.length := List.length_filter_le _ _
theorem keepL_sub (many : Int) (l : EntL) : (keepL many l).Sublist l := by
  induction l with
  | nil => exact List.Sublist.slnil
  | cons e r ih =>
    unfold keepL
    split
    · exact ih.cons_cons e
    · exact ih.cons e
theorem keepL_len (many : Int) (l : EntL) : (keepL many l).length ≤ l.length := (keepL_sub many l).length_le
theorem keepL_drop {many : Int} {l : EntL} {k : Nat} (h : k < l.length) : keepL many (l.drop k) = if (cntN l[k].r.name (l.drop (k + 1)) : Int) < many then l[k] :: keepL many (l.drop (k + 1)) else keepL many (l.drop (k + 1)) := by
  rw [List.drop_eq_getElem_cons h]; rfl
theorem keepL_more {many : Int} (l : EntL) : (keepL many l).length ≤ (keepL (many + 1) l).length := by
  induction l with
  | nil => exact Nat.le_refl _
  | cons e r ih =>
    unfold keepL
    split
    · rw [if_pos (by omega)]; simpa using ih
    · split
      · simp only [List.length_cons]; omega
      · exact ih
theorem cntN_keep {many : Int} (h0 : 0 ≤ many) (name : Bytes) (l : EntL) : (cntN name (keepL many l) : Int) = min (cntN name l : Int) many := by
  induction l with
  | nil => simp [keepL, cntN]; omega
  | cons e r ih =>
    unfold keepL
    by_cases hn : nameE name e = true
    · have he : e.r.name = name := by unfold nameE at hn; simpa using hn
      split
      · rw [cntN_cons, cntN_cons, if_pos hn]; rw [he] at *; push_cast; omega
      · rw [cntN_cons, if_pos hn]; rw [he] at *; push_cast; omega
    · split
      · rw [cntN_cons, cntN_cons, if_neg hn]; simpa using ih
      · rw [cntN_cons, if_neg hn]; simpa using ih
theorem keepL_keep {many : Int} (h0 : 0 ≤ many) (l : EntL) : keepL many (keepL (many + 1) l) = keepL many l := by
  induction l with
  | nil => rfl
  | cons e r ih =>
    have hc := cntN_keep (many := many + 1) (by omega) e.r.name r
    by_cases h1 : (cntN e.r.name r : Int) < many + 1
    · have e1 : keepL (many + 1) (e :: r) = e :: keepL (many + 1) r := by rw [keepL, if_pos h1]
      rw [e1]
      by_cases h2 : (cntN e.r.name r : Int) < many
      · have e2 : keepL many (e :: keepL (many + 1) r) = e :: keepL many (keepL (many + 1) r) := by rw [keepL, if_pos (by omega)]
        rw [e2, ih, keepL, if_pos h2]
      · have e2 : keepL many (e :: keepL (many + 1) r) = keepL many (keepL (many + 1) r) := by rw [keepL, if_neg (by omega)]
        rw [e2, ih, keepL, if_neg h2]
    · have e1 : keepL (many + 1) (e :: r) = keepL (many + 1) r := by rw [keepL, if_neg h1]
      rw [e1, ih, keepL, if_neg (by omega)]
theorem lastN_keep {many : Int} (h1 : 1 ≤ many) (name : Bytes) (l : EntL) : lastP (nameE name) (keepL many l) = lastP (nameE name) l := by
  induction l with
  | nil => rfl
  | cons e r ih =>
    unfold keepL
    split
    · unfold lastP; rw [ih]
    · rename_i hc
      rw [ih]
      conv => rhs; unfold lastP
      by_cases hn : nameE name e = true
      · have he : e.r.name = name := by unfold nameE at hn; simpa using hn
        cases hr : lastP (nameE name) r with
        | some z => rfl
        | none =>
          exfalso
          rw [he] at hc
          have : r.filter (nameE name) = [] := List.filter_eq_nil_iff.2 fun x hx => by rw [lastP_none.1 hr x hx]; simp
          have h0 : cntN name r = 0 := by unfold cntN; rw [this]; rfl
          rw [h0] at hc
          omega
      · rw [if_neg hn]; simp
/-- a trail in order -/
def okFrom : Int → EntL → Prop
  | _, [] => True
  | was, e :: r => entErr e was = 0 ∧ okFrom e.day r
theorem okFrom_fault (l : EntL) : ∀ i was, (trailFrom i was l).1 = 0 ↔ okFrom was l := by
  induction l with
  | nil => intro i was; exact ⟨fun _ => trivial, fun _ => rfl⟩
  | cons e r ih =>
    intro i was
    unfold trailFrom okFrom
    by_cases h : entErr e was = 0
    · rw [if_neg (not_not_intro h)]
      exact ⟨fun hx => ⟨h, (ih _ _).1 hx⟩, fun hx => (ih _ _).2 hx.2⟩
    · rw [if_pos h]
      exact ⟨fun hx => absurd hx h, fun hx => absurd hx.1 h⟩
theorem entErr_zero {e : Ent} {was : Int} : entErr e was = 0 ↔ 0 ≤ e.day ∧ was ≤ e.day ∧ (rcpFault e.r).1 = 0 := by
  unfold entErr
  split
  · exact ⟨fun h => by omega, fun h => by omega⟩
  · split
    · exact ⟨fun h => by omega, fun h => by omega⟩
    · exact ⟨fun h => ⟨by omega, by omega, h⟩, fun h => h.2.2⟩
theorem okFrom_less {l : EntL} {a b : Int} (hab : b ≤ a) (h : okFrom a l) : okFrom b l := by
  cases l with
  | nil => trivial
  | cons e r =>
    obtain ⟨h1, h2⟩ := h
    have := entErr_zero.1 h1
    exact ⟨entErr_zero.2 ⟨this.1, by omega, this.2.2⟩, h2⟩
theorem okFrom_sub {l' l : EntL} (h : l'.Sublist l) : ∀ was, okFrom was l → okFrom was l' := by
  induction h with
  | slnil => intro _ h; exact h
  | cons e _ ih =>
    intro was h
    obtain ⟨h1, h2⟩ := h
    exact okFrom_less (entErr_zero.1 h1).2.1 (ih _ h2)
  | cons_cons e _ ih =>
    intro was h
    obtain ⟨h1, h2⟩ := h
    exact ⟨h1, ih _ h2⟩
theorem trailFault_sub {l' l : EntL} (h : l'.Sublist l) (hl : trailFault l = (0, -1)) : trailFault l' = (0, -1) := by
  have hlen := h.length_le
  refine trailFault_two ?_
  unfold trailFault at hl ⊢
  split at hl
  · cases hl
  · rename_i h1
    rw [if_neg (by omega)]
    exact (okFrom_fault _ _ _).2 (okFrom_sub h _ ((okFrom_fault _ _ _).1 (by rw [hl])))
theorem keepL_fault {l : EntL} (hl : trailFault l = (0, -1)) (many : Int) : trailFault (keepL many l) = (0, -1) := trailFault_sub (keepL_sub many l) hl
/-! ### names -/
theorem namesFrom_take {t : Tb} {l : EntL} {k : Nat} (h : k < l.length) : namesFrom t (l.take (k + 1)) = putL l[k].r.name 0 [] (namesFrom t (l.take k)) := by
  rw [List.take_succ_eq_append_getElem h]
  generalize l.take k = m
  generalize l[k] = e
  induction m generalizing t with
  | nil => rfl
  | cons y r ih => exact ih
theorem srt_names (l : EntL) : ∀ {t : Tb}, Srt t → Srt (namesFrom t l) := by
  induction l with
  | nil => exact fun h => h
  | cons e r ih => exact fun h => ih (srt_putL h _ _ _)
theorem srt_namesT (l : EntL) : Srt (namesT l) := srt_names l (by simp [Srt])
theorem mem_put_names {t : TbB} {L : Tb} {x : TbB} : x ∈ (putL t 0 [] L).map (·.1) ↔ x = t ∨ x ∈ L.map (·.1) := by
  induction L with
  | nil => simp [putL]
  | cons y r ih =>
    unfold putL
    split
    · rename_i h; subst h; simp
    · split
      · simp
      · simp only [List.map_cons, List.mem_cons, ih]
        exact ⟨fun h => by rcases h with h | h | h <;> simp [h], fun h => by rcases h with h | h | h <;> simp [h]⟩
theorem mem_namesFrom (l : EntL) : ∀ {t : Tb} {x : TbB}, x ∈ (namesFrom t l).map (·.1) ↔ x ∈ t.map (·.1) ∨ ∃ e ∈ l, e.r.name = x := by
  induction l with
  | nil => intro t x; simp [namesFrom]
  | cons e r ih =>
    intro t x
    unfold namesFrom
    rw [ih, mem_put_names]
    constructor
    · rintro ((h | h) | ⟨y, hy, h⟩)
      · exact .inr ⟨e, List.mem_cons_self, h.symm⟩
      · exact .inl h
      · exact .inr ⟨y, List.mem_cons_of_mem _ hy, h⟩
    · rintro (h | ⟨y, hy, h⟩)
      · exact .inl (.inr h)
      · rcases List.mem_cons.1 hy with rfl | hy
        · exact .inl (.inl h.symm)
        · exact .inr ⟨y, hy, h⟩
def namesL (l : EntL) : List TbB := (namesT l).map (·.1)
theorem mem_namesL {l : EntL} {x : TbB} : x ∈ namesL l ↔ ∃ e ∈ l, e.r.name = x := by
  unfold namesL namesT
  rw [mem_namesFrom]
  simp
theorem namesFrom_len (l : EntL) : ∀ t : Tb, (namesFrom t l).length ≤ t.length + l.length := by
  induction l with
  | nil => intro t; exact Nat.le_refl _
  | cons e r ih =>
    intro t
    have h1 := ih (putL e.r.name 0 [] t)
    have h2 := length_putL e.r.name 0 [] t
    unfold namesFrom
    rw [List.length_cons]; omega
theorem namesL_len (l : EntL) : (namesL l).length ≤ l.length := by
  have := namesFrom_len l []
  unfold namesL namesT
  rw [List.length_map]
  simpa using this
theorem srt_ext : ∀ {a b : List TbB}, a.Pairwise (fun x y => bytesBefore x y = true) → b.Pairwise (fun x y => bytesBefore x y = true) → (∀ x, x ∈ a ↔ x ∈ b) → a = b
  | [], [], _, _, _ => rfl
  | [], y :: s, _, _, h => absurd ((h y).2 List.mem_cons_self) List.not_mem_nil
  | x :: r, [], _, _, h => absurd ((h x).1 List.mem_cons_self) List.not_mem_nil
  | x :: r, y :: s, ha, hb, h => by
    obtain ⟨ha1, ha2⟩ := List.pairwise_cons.1 ha
    obtain ⟨hb1, hb2⟩ := List.pairwise_cons.1 hb
    have hxy : x = y := by
      rcases List.mem_cons.1 ((h x).1 List.mem_cons_self) with e | hx
      · exact e
      · rcases List.mem_cons.1 ((h y).2 List.mem_cons_self) with e | hy
        · exact e.symm
        · have := WideShapes.bytes_trans _ _ _ (hb1 x hx) (ha1 y hy)
          rw [WideAt.bytes_irrefl] at this
          cases this
    subst hxy
    rw [srt_ext ha2 hb2 (fun z => ?_)]
    constructor
    · intro hz
      rcases List.mem_cons.1 ((h z).1 (List.mem_cons_of_mem _ hz)) with e | hz'
      · exact absurd e.symm (before_ne (ha1 z hz))
      · exact hz'
    · intro hz
      rcases List.mem_cons.1 ((h z).2 (List.mem_cons_of_mem _ hz)) with e | hz'
      · exact absurd e.symm (before_ne (hb1 z hz))
      · exact hz'
theorem namesL_srt (l : EntL) : (namesL l).Pairwise (fun x y => bytesBefore x y = true) := srt_namesT l
theorem namesL_keep {many : Int} (h1 : 1 ≤ many) (l : EntL) : namesL (keepL many l) = namesL l := by
  refine srt_ext (namesL_srt _) (namesL_srt _) fun x => ?_
  rw [mem_namesL, mem_namesL]
  constructor
  · rintro ⟨e, he, hn⟩
    exact ⟨e, (keepL_sub many l).subset he, hn⟩
  · rintro ⟨e, he, hn⟩
    cases hl : lastP (nameE x) l with
    | none =>
      have := lastP_none.1 hl e he
      unfold nameE at this
      rw [hn] at this
      simp at this
    | some y =>
      rw [← lastN_keep h1] at hl
      obtain ⟨h1, h2⟩ := lastP_mem hl
      exact ⟨y, h1, by unfold nameE at h2; simpa using h2⟩
/-! ### counting, as a table -/
def cntT (t : Tb) (name : TbB) : Int := ((getL t name).getD (0, [])).1
theorem getL_put_same (t : TbB) (n : Int) (s : TbB) (L : Tb) : getL (putL t n s L) t = some (n, s) := by
  induction L with
  | nil => simp [putL, getL]
  | cons y r ih =>
    unfold putL
    split
    · simp [getL]
    · rename_i h
      split
      · simp [getL]
      · unfold getL at ih ⊢
        have : (y.1 == t) = false := by simpa using h
        simp only [List.find?, this]
        exact ih
theorem getL_put_other {t x : TbB} (hx : x ≠ t) (n : Int) (s : TbB) (L : Tb) : getL (putL t n s L) x = getL L x := by
  have hx' : (t == x) = false := by simpa using fun e => hx e.symm
  induction L with
  | nil => simp [putL, getL, List.find?, hx']
  | cons y r ih =>
    unfold putL
    split
    · rename_i h
      unfold getL
      simp only [List.find?]
      rw [h, hx']
    · split
      · unfold getL
        simp only [List.find?, hx']
      · unfold getL at ih ⊢
        simp only [List.find?]
        cases (y.1 == x)
        · exact ih
        · rfl
end Go.Proofs.YtbokckjlgjnnjaaGreatDoor

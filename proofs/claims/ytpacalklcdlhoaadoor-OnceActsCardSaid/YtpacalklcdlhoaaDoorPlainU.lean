/- Plain words of a table as a sorted list: look-up, putting, and the datum that the map reads as. No program in sight. No conditions. -/
import Derived.Maps.Views
import Derived.Maps.OwnSet
import Derived.Sort.KeysCollected
import Derived.WideAt
import Derived.WideShapes
namespace Go.Proofs.YtpacalklcdlhoaaDoor
open Go.Maps Go.Sort

abbrev TbB := List UInt8
abbrev Tb := List (TbB × Int × TbB)
def ansU (n : Int) (s : TbB) : DataW Unit := .agg [.lit (.int .i64 n), .lit (.string s)]
def dataOf (L : Tb) : DataW Unit := .map (L.map fun x => (.string x.1, ansU x.2.1 x.2.2))
/-- the clients stand in order -/
def Srt (L : Tb) : Prop := (L.map (·.1)).Pairwise (fun a b => bytesBefore a b = true)
def getL (L : Tb) (t : TbB) : Option (Int × TbB) := (L.find? (fun x => x.1 == t)).map (·.2)
def putL (t : TbB) (n : Int) (s : TbB) : Tb → Tb
  | [] => [(t, n, s)]
  | y :: r => if y.1 = t then (t, n, s) :: r else if bytesBefore t y.1 = true then (t, n, s) :: y :: r else y :: putL t n s r
theorem has_data (L : Tb) (t : TbB) : Maps.has (dataOf L) (.string t) = (getL L t).isSome := by
  unfold dataOf getL
  rw [Maps.has_eq]
  induction L with
  | nil => rfl
  | cons y r ih =>
    rw [List.map_cons, List.any_cons, ih]
    cases h : (y.1 == t) with
    | true => simp [Lit.sameKey, List.find?, h]
    | false => simp [Lit.sameKey, List.find?, h]
theorem atKey_data (L : Tb) (t : TbB) : (dataOf L).atKey (.string t) (ansU 0 []) = ansU ((getL L t).getD (0, [])).1 ((getL L t).getD (0, [])).2 := by
  unfold dataOf getL DataW.atKey
  induction L with
  | nil => rfl
  | cons y r ih =>
    cases h : (y.1 == t) with
    | true => simp [Lit.sameKey, List.find?, h]
    | false =>
      simp only [List.map_cons, List.find?, Lit.sameKey, h] at ih ⊢
      exact ih
theorem size_data (L : Tb) : Maps.size (dataOf L) = L.length := by simp [dataOf, Maps.size]
theorem keys_data (L : Tb) : strKeys (dataOf L) = L.map (·.1) := by
  show (L.map fun x => ((Lit.string x.1, ansU x.2.1 x.2.2) : Lit × DataW Unit)).map (fun p => strOf p.1) = _
  rw [List.map_map]
  rfl
theorem filter_none {r : Tb} {t : TbB} (h : ∀ x ∈ r, x.1 ≠ t) : ((r.map fun x => ((Lit.string x.1, ansU x.2.1 x.2.2) : Lit × DataW Unit)).filter fun p => !p.1.sameKey (.string t)) = r.map fun x => (Lit.string x.1, ansU x.2.1 x.2.2) := by
  rw [List.filter_eq_self]
  intro p hp
  obtain ⟨x, hx, rfl⟩ := List.mem_map.1 hp
  have := h x hx
  simp [Lit.sameKey, this]
theorem srt_ne {y : TbB × Int × TbB} {r : Tb} (h : Srt (y :: r)) : ∀ x ∈ r, bytesBefore y.1 x.1 = true := by
  unfold Srt at h
  rw [List.map_cons, List.pairwise_cons] at h
  exact fun x hx => h.1 x.1 (List.mem_map_of_mem hx)
theorem srt_tail {y : TbB × Int × TbB} {r : Tb} (h : Srt (y :: r)) : Srt r := by
  unfold Srt at h ⊢
  rw [List.map_cons, List.pairwise_cons] at h
  exact h.2
theorem before_ne {a b : TbB} (h : bytesBefore a b = true) : a ≠ b := fun e => by
  subst e
  rw [WideAt.bytes_irrefl] at h
  cases h
theorem put_data (L : Tb) (hs : Srt L) (t : TbB) (n : Int) (s : TbB) : (dataOf L).put (.string t) (ansU n s) = dataOf (putL t n s L) := by
  unfold dataOf DataW.put
  simp only
  congr 1
  induction L with
  | nil => rfl
  | cons y r ih =>
    have hne := srt_ne hs
    unfold putL
    by_cases h : y.1 = t
    · rw [if_pos h]
      subst h
      rw [List.map_cons, List.filter_cons, if_neg (by simp [Lit.sameKey]), filter_none (fun x hx => (before_ne (hne x hx)).symm)]
      cases r with
      | nil => rfl
      | cons z q =>
        have hz := hne z List.mem_cons_self
        simp [DataW.insert, Lit.before, hz]
    · rw [if_neg h, List.map_cons, List.filter_cons, if_pos (by simp [Lit.sameKey, h])]
      by_cases hb : bytesBefore t y.1 = true
      · rw [if_pos hb, filter_none (fun x hx => (before_ne (WideShapes.bytes_trans _ _ _ hb (hne x hx))).symm)]
        simp [DataW.insert, Lit.before, hb]
      · rw [if_neg hb]
        have hb' : bytesBefore t y.1 = false := by simpa using hb
        rw [List.map_cons, ← ih (srt_tail hs)]
        simp [DataW.insert, Lit.before, hb']
theorem mem_putL {t : TbB} {n : Int} {s : TbB} {L : Tb} {x : TbB × Int × TbB} (h : x ∈ putL t n s L) : x = (t, n, s) ∨ x ∈ L := by
  induction L with
  | nil => left; simpa [putL] using h
  | cons y r ih =>
    unfold putL at h
    split at h
    · rcases List.mem_cons.1 h with h | h
      · exact .inl h
      · exact .inr (List.mem_cons_of_mem _ h)
    · split at h
      · rcases List.mem_cons.1 h with h | h
        · exact .inl h
        · exact .inr h
      · rcases List.mem_cons.1 h with h | h
        · exact .inr (h ▸ List.mem_cons_self)
        · rcases ih h with h | h
          · exact .inl h
          · exact .inr (List.mem_cons_of_mem _ h)
theorem srt_cons {y : TbB × Int × TbB} {r : Tb} (h : ∀ x ∈ r, bytesBefore y.1 x.1 = true) (hr : Srt r) : Srt (y :: r) := by
  unfold Srt at hr ⊢
  rw [List.map_cons, List.pairwise_cons]
  refine ⟨fun b hb => ?_, hr⟩
  obtain ⟨x, hx, rfl⟩ := List.mem_map.1 hb
  exact h x hx
theorem srt_putL {L : Tb} (hs : Srt L) (t : TbB) (n : Int) (s : TbB) : Srt (putL t n s L) := by
  induction L with
  | nil => simp [putL, Srt]
  | cons y r ih =>
    have hne := srt_ne hs
    unfold putL
    by_cases h : y.1 = t
    · rw [if_pos h]; subst h; exact srt_cons hne (srt_tail hs)
    · rw [if_neg h]
      by_cases hb : bytesBefore t y.1 = true
      · rw [if_pos hb]
        refine srt_cons (fun x hx => ?_) hs
        rcases List.mem_cons.1 hx with rfl | hx
        · exact hb
        · exact WideShapes.bytes_trans _ _ _ hb (hne x hx)
      · rw [if_neg hb]
        refine srt_cons (fun x hx => ?_) (ih (srt_tail hs))
        rcases mem_putL hx with rfl | hx
        · rcases WideAt.bytes_total y.1 t h with h1 | h1
          · exact h1
          · exact absurd h1 hb
        · exact hne x hx
theorem length_putL (t : TbB) (n : Int) (s : TbB) (L : Tb) : (putL t n s L).length ≤ L.length + 1 := by
  induction L with
  | nil => simp [putL]
  | cons y r ih =>
    unfold putL
    split
    · simp
    · split
      · simp
      · simp only [List.length_cons]; omega
end Go.Proofs.YtpacalklcdlhoaaDoor

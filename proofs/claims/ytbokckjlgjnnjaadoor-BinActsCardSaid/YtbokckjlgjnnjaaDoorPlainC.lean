/- Plain words: a text cut at a byte, as the library's Cut does. No program in sight. No conditions. -/
import Derived.Lib.IndexMore
import Derived.Lib.Index
namespace Go.Proofs.YtbokckjlgjnnjaaDoor
open Go.Lib

def byteCut (b : UInt8) : List UInt8 → Option (List UInt8 × List UInt8)
  | [] => none
  | c :: l => if c = b then some ([], l) else (byteCut b l).map fun p => (c :: p.1, p.2)
theorem byteCut_of (b : UInt8) (d r : List UInt8) (h : b ∉ d) : byteCut b (d ++ b :: r) = some (d, r) := by
  induction d with
  | nil => simp [byteCut]
  | cons c d ih =>
    have hc : c ≠ b := fun e => h (by simp [e])
    have hd : b ∉ d := fun e => h (List.mem_cons_of_mem _ e)
    simp [byteCut, hc, ih hd]
theorem byteCut_some (b : UInt8) (l d r : List UInt8) (h : byteCut b l = some (d, r)) : l = d ++ b :: r ∧ b ∉ d := by
  induction l generalizing d with
  | nil => simp [byteCut] at h
  | cons c l ih =>
    simp only [byteCut] at h
    split at h
    · next hc =>
      simp only [Option.some.injEq, Prod.mk.injEq] at h
      obtain ⟨rfl, rfl⟩ := h
      simp [hc]
    · next hc =>
      cases hb : byteCut b l with
      | none => simp [hb] at h
      | some p =>
        obtain ⟨d', r'⟩ := p
        simp only [hb, Option.map_some, Option.some.injEq, Prod.mk.injEq] at h
        obtain ⟨rfl, rfl⟩ := h
        obtain ⟨h1, h2⟩ := ih d' hb
        refine ⟨by rw [h1]; rfl, fun e => ?_⟩
        rcases List.mem_cons.1 e with e | e
        · exact hc e.symm
        · exact h2 e
theorem byteCut_none (b : UInt8) (l : List UInt8) : byteCut b l = none ↔ b ∉ l := by
  induction l with
  | nil => simp [byteCut]
  | cons c l ih =>
    simp only [byteCut]
    by_cases hc : c = b
    · simp [hc]
    · rw [if_neg hc]
      simp [ih, Ne.symm hc, show ¬ b = c from fun e => hc e.symm]
theorem index_cons (b c : UInt8) (l : List UInt8) : index (c :: l) [b] = if c = b then 0 else if index l [b] = -1 then -1 else index l [b] + 1 := by
  by_cases hc : c = b
  · subst hc; simp [index, List.isPrefixOf]
  · have : ([b].isPrefixOf (c :: l)) = false := by
      have hbc : (b == c) = false := by rw [beq_eq_false_iff_ne]; exact fun e => hc e.symm
      simp only [List.isPrefixOf, hbc, Bool.false_and]
    rw [index, this]
    simp [hc]
theorem index_none (b : UInt8) (l : List UInt8) (h : b ∉ l) : index l [b] = -1 := by
  induction l with
  | nil => rfl
  | cons c l ih =>
    have hc : c ≠ b := fun e => h (by simp [e])
    rw [index_cons, if_neg hc, ih (fun e => h (List.mem_cons_of_mem _ e)), if_pos rfl]
theorem index_hit (b : UInt8) (d r : List UInt8) (h : b ∉ d) : index (d ++ b :: r) [b] = (d.length : Int) := by
  induction d with
  | nil => rw [List.nil_append, index_cons, if_pos rfl]; rfl
  | cons c d ih =>
    have hc : c ≠ b := fun e => h (by simp [e])
    rw [List.cons_append, index_cons, if_neg hc, ih (fun e => h (List.mem_cons_of_mem _ e)), if_neg (by omega), List.length_cons]
    omega
theorem cut_some (b : UInt8) (l d r : List UInt8) (h : byteCut b l = some (d, r)) : cut l [b] = (d, r, true) := by
  obtain ⟨rfl, hb⟩ := byteCut_some b l d r h
  unfold cut
  rw [index_hit b d r hb, if_pos (by omega), Int.toNat_natCast]
  simp
theorem cut_none (b : UInt8) (l : List UInt8) (h : byteCut b l = none) : cut l [b] = (l, [], false) := by
  unfold cut
  rw [index_none b l ((byteCut_none b l).1 h), if_neg (by omega)]
end Go.Proofs.YtbokckjlgjnnjaaDoor

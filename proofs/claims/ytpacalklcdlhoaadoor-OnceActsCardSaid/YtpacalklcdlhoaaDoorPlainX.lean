/- Plain words of a table as a sorted list: its order is Go's; where a client stands; putting by the place. No program in sight. No conditions. -/
import Derived.Test.YtpacalklcdlhoaaDoorPlainU
import Derived.Sort.Walk0
namespace Go.Proofs.YtpacalklcdlhoaaDoor
open Go.Maps Go.Sort

theorem before_less : ∀ (a b : TbB), bytesBefore a b = Op.bytesLess a b
  | [], [] => rfl
  | [], _ :: _ => rfl
  | _ :: _, [] => rfl
  | a :: r, b :: s => by
    show (decide (a < b) || (a == b && bytesBefore r s)) = (decide (a < b) || (a == b && Op.bytesLess r s))
    rw [before_less r s]
theorem before_lt (a b : TbB) : bytesBefore a b = decide (a < b) := (before_less a b).trans (bytesLess_eq a b)
theorem sort_keys {L : Tb} (hs : Srt L) {ss : List TbB} (h : ss.Perm (L.map (·.1))) : ss.mergeSort (fun x y => decide (x ≤ y)) = L.map (·.1) := by
  refine (mergeSort_of_perm h).trans (List.mergeSort_of_pairwise ?_)
  refine List.Pairwise.imp (fun {a b} hab => ?_) hs
  rw [before_lt] at hab
  exact decide_eq_true (List.le_of_lt (of_decide_eq_true hab))
theorem getL_at {L : Tb} {t : TbB} {k : Nat} (hk : k < L.length) (he : L[k].1 = t) (hno : ∀ j (hj : j < L.length), j < k → L[j].1 ≠ t) : getL L t = some L[k].2 := by
  unfold getL
  induction L generalizing k with
  | nil => simp at hk
  | cons y r ih =>
    cases k with
    | zero =>
      simp only [List.getElem_cons_zero] at he ⊢
      simp [List.find?, he]
    | succ k =>
      have h0 : y.1 ≠ t := hno 0 (by simp) (by omega)
      have hf : (y.1 == t) = false := by simpa using h0
      simp only [List.find?, hf, List.getElem_cons_succ] at he ⊢
      exact ih (by simpa using hk) he (fun j hj h => hno (j + 1) (Nat.succ_lt_succ hj) (by omega))
theorem getL_none {L : Tb} {t : TbB} (hno : ∀ j (hj : j < L.length), L[j].1 ≠ t) : getL L t = none := by
  unfold getL
  rw [List.find?_eq_none.2 (fun x hx => ?_)]
  · rfl
  · obtain ⟨j, hj, rfl⟩ := List.getElem_of_mem hx
    simpa using hno j hj
theorem putL_set {L : Tb} (hs : Srt L) {t : TbB} {n : Int} {s : TbB} {k : Nat} (hk : k < L.length) (he : L[k].1 = t) : putL t n s L = L.set k (t, n, s) := by
  induction L generalizing k with
  | nil => simp at hk
  | cons y r ih =>
    cases k with
    | zero =>
      simp only [List.getElem_cons_zero] at he
      unfold putL
      rw [if_pos he]; rfl
    | succ k =>
      simp only [List.getElem_cons_succ] at he
      have hk' : k < r.length := by simpa using hk
      have hb : bytesBefore y.1 t = true := by rw [← he]; exact srt_ne hs _ (List.getElem_mem hk')
      have hnb : ¬ bytesBefore t y.1 = true := fun h => by
        have := WideShapes.bytes_trans _ _ _ hb h
        rw [WideAt.bytes_irrefl] at this
        cases this
      unfold putL
      rw [if_neg (before_ne hb), if_neg hnb, ih (srt_tail hs) hk' he]; rfl
theorem putL_ins {L : Tb} {t : TbB} {n : Int} {s : TbB} {k : Nat} (hk : k ≤ L.length) (h1 : ∀ j (hj : j < L.length), j < k → bytesBefore L[j].1 t = true) (h2 : ∀ (hj : k < L.length), bytesBefore L[k].1 t = false)
    (hno : ∀ j (hj : j < L.length), L[j].1 ≠ t) : putL t n s L = L.take k ++ (t, n, s) :: L.drop k := by
  induction L generalizing k with
  | nil => simp [putL]
  | cons y r ih =>
    have hy : y.1 ≠ t := hno 0 (by simp)
    unfold putL
    rw [if_neg hy]
    cases k with
    | zero =>
      have hb := h2 (by simp)
      simp only [List.getElem_cons_zero] at hb
      rcases WideAt.bytes_total y.1 t hy with h | h
      · rw [hb] at h; cases h
      · rw [if_pos h]; rfl
    | succ k =>
      have hb : bytesBefore y.1 t = true := h1 0 (by simp) (by omega)
      have hnb : ¬ bytesBefore t y.1 = true := fun h => by
        have := WideShapes.bytes_trans _ _ _ hb h
        rw [WideAt.bytes_irrefl] at this
        cases this
      rw [if_neg hnb, ih (by simpa using hk) (fun j hj h => h1 (j + 1) (Nat.succ_lt_succ hj) (by omega)) (fun hj => h2 (Nat.succ_lt_succ hj)) (fun j hj => hno (j + 1) (Nat.succ_lt_succ hj))]
      rfl
end Go.Proofs.YtpacalklcdlhoaaDoor

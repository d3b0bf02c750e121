/- Plain words: what is put is held until it is dropped as often as it was put, and swept. No program in sight. No conditions. -/
import Derived.Test.YtpanoplcamdnkaaGreatDoorPlainNd
namespace Go.Proofs.YtpanoplcamdnkaaGreatDoor
open Go.RowKit Go.Lib

theorem setB_kept {h x : Hld} : ∀ {L : HldL}, x ∈ setB h L → x = h ∨ x ∈ L := fun hx => setB_mem hx
/-- a bin into which just these pieces were put, one use each time -/
structure UseSt (n : Int) (L : HldL) (texts : List Bytes) : Prop where
  ok : BinOk n L
  len : L.length ≤ 250
  uses : ∀ x, usesB L x = ((texts.map idOf).count x : Int)
  pos : ∀ h ∈ L, h.uses ≠ 0
  text : ∀ t ∈ texts, ∃ h, getB L (idOf t) = some h ∧ h.text = t
theorem UseSt.nil (n : Int) : UseSt n [] [] := ⟨BinOk.nil n, by simp, fun x => by simp [usesB, getB], fun h hh => by (cases hh), fun t ht => by (cases ht)⟩
theorem UseSt.mono {n m : Int} {L : HldL} {texts : List Bytes} (h : UseSt n L texts) (hm : n ≤ m) : UseSt m L texts := ⟨h.ok.mono hm, h.len, h.uses, h.pos, h.text⟩
theorem UseSt.sweep {n : Int} {L : HldL} {texts : List Bytes} (h : UseSt n L texts) : sweepB L = L := by
  unfold sweepB
  rw [List.filter_eq_self]
  intro x hx
  unfold usedB
  exact decide_eq_true (h.pos x hx)
theorem UseSt.put {n : Int} {L : HldL} {texts : List Bytes} (h : UseSt n L texts) (hn : 0 ≤ n) {s : Bytes} (hp : (putB s L).2.2.2 = 0) : UseSt (n + 1) (putB s L).1 (texts ++ [s]) ∧ (putB s L).2.1 = idOf s := by
  obtain ⟨e, hr, ht, _⟩ := putB_ok hp
  have hs := h.ok.srt
  have e1 : (putB s L).1 = setB ⟨idOf s, usesB L (idOf s) + 1, s⟩ L := by rw [e]
  have hu0 : 0 ≤ usesB L (idOf s) := by rw [h.uses]; omega
  refine ⟨⟨binOk_put hn h.ok s, length_put hs h.len, fun x => ?_, fun o ho => ?_, fun t htm => ?_⟩, by rw [e]⟩
  · rw [e1, usesB_set hs, List.map_append, List.count_append]
    show (if idOf s = x then usesB L (idOf s) + 1 else usesB L x) = _
    rw [List.map_cons, List.map_nil, List.count_cons, List.count_nil]
    by_cases hx : idOf s = x
    · subst hx
      rw [if_pos rfl, h.uses]; simp
    · rw [if_neg hx, h.uses]; simp [hx]
  · rw [e1] at ho
    rcases setB_mem ho with rfl | ho
    · show usesB L (idOf s) + 1 ≠ 0; omega
    · exact h.pos o ho
  · rw [e1, getB_set hs]
    by_cases hx : idOf s = idOf t
    · refine ⟨_, by rw [if_pos hx], ?_⟩
      rcases List.mem_append.1 htm with hm | hm
      · obtain ⟨o, ho, hot⟩ := h.text t hm
        rw [← hx] at ho
        exact (ht o ho).symm.trans hot
      · exact (List.mem_singleton.1 hm).symm
    · rcases List.mem_append.1 htm with hm | hm
      · obtain ⟨o, ho, hot⟩ := h.text t hm
        exact ⟨o, by rw [if_neg hx]; exact ho, hot⟩
      · rw [List.mem_singleton.1 hm] at hx; exact absurd rfl hx
theorem UseSt.got {n : Int} {L : HldL} {t : Bytes} {rest : List Bytes} (h : UseSt n L (t :: rest)) : ∃ o, getB L (idOf t) = some o ∧ o.text = t ∧ o.uses ≠ 0 := by
  obtain ⟨o, ho, hot⟩ := h.text t List.mem_cons_self
  exact ⟨o, ho, hot, h.pos o (getB_mem ho).1⟩
/-- dropped once, and swept -/
theorem UseSt.drop {n : Int} {L : HldL} {t : Bytes} {rest : List Bytes} (h : UseSt n L (t :: rest)) :
    (dropB (idOf t) L).2 = 0 ∧ BinOk n (dropB (idOf t) L).1 ∧ (dropB (idOf t) L).1.length ≤ 250 ∧ UseSt n (sweepB (dropB (idOf t) L).1) rest ∧ ((getB (sweepB (dropB (idOf t) L).1) (idOf t)).isSome = (rest.map idOf).contains (idOf t)) := by
  obtain ⟨o, ho, hot, hou⟩ := h.got
  have hs := h.ok.srt
  have hid := (getB_mem ho).2
  have hup : 0 < usesB L (idOf t) := by
    have := (h.ok.all o (getB_mem ho).1).uses.1
    rw [usesB_some ho]; omega
  obtain ⟨o', ho', e, _⟩ := dropB_used hup
  rw [ho] at ho'
  injection ho' with ho'
  subst ho'
  have e1 : (dropB (idOf t) L).1 = setB ⟨o.id, o.uses - 1, o.text⟩ L := by rw [e]
  have hs1 : SrtB (dropB (idOf t) L).1 := by rw [e1]; exact srtB_set hs _
  have hget : ∀ x, getB (dropB (idOf t) L).1 x = if idOf t = x then some ⟨o.id, o.uses - 1, o.text⟩ else getB L x := fun x => by
    rw [e1, getB_set hs]
    show (if o.id = x then _ else _) = _
    rw [hid]
  have hu1 : ∀ x, usesB (dropB (idOf t) L).1 x = ((rest.map idOf).count x : Int) := fun x => by
    have h0 := h.uses x
    rw [List.map_cons, List.count_cons] at h0
    unfold usesB
    rw [hget]
    by_cases hx : idOf t = x
    · rw [if_pos hx]
      show o.uses - 1 = _
      rw [← hx, usesB_some ho] at h0
      rw [← hx]
      simp at h0
      omega
    · rw [if_neg hx]
      show usesB L x = _
      rw [h0]; simp [hx]
  have hok1 := binOk_drop h.ok (idOf t)
  have hlen1 : (dropB (idOf t) L).1.length ≤ 250 := by rw [length_drop hs]; exact h.len
  have hswept : ∀ x q, getB (dropB (idOf t) L).1 x = some q → 0 < (rest.map idOf).count x → getB (sweepB (dropB (idOf t) L).1) x = some q := fun x q hq hc => by
    rw [getB_sweep hs1, hq]
    simp only
    have := hu1 x
    rw [usesB_some hq] at this
    rw [if_neg (by omega)]
  have hst : UseSt n (sweepB (dropB (idOf t) L).1) rest := by
    refine ⟨binOk_filter hok1 usedB, Nat.le_trans (List.length_filter_le _ _) hlen1, fun x => by rw [usesB_sweep hs1]; exact hu1 x, fun q hq => ?_, fun u hu => ?_⟩
    · have := (List.mem_filter.1 hq).2
      unfold usedB at this
      exact of_decide_eq_true this
    · obtain ⟨q, hq, hqt⟩ := h.text u (List.mem_cons_of_mem _ hu)
      have hc : 0 < (rest.map idOf).count (idOf u) := List.count_pos_iff.2 (List.mem_map_of_mem hu)
      by_cases hx : idOf t = idOf u
      · have e2 : q = o := by rw [← hx, ho] at hq; injection hq with hq; exact hq.symm
        refine ⟨_, hswept (idOf u) ⟨o.id, o.uses - 1, o.text⟩ (by rw [hget, if_pos hx]) hc, ?_⟩
        show o.text = u
        rw [← e2]; exact hqt
      · exact ⟨q, hswept (idOf u) q (by rw [hget, if_neg hx]; exact hq) hc, hqt⟩
  refine ⟨by rw [e], hok1, hlen1, hst, ?_⟩
  cases hc : (rest.map idOf).contains (idOf t) with
  | true =>
    have hm : idOf t ∈ rest.map idOf := by simpa using hc
    rw [hswept (idOf t) ⟨o.id, o.uses - 1, o.text⟩ (by rw [hget, if_pos rfl]) (List.count_pos_iff.2 hm)]
    rfl
  | false =>
    have hm : idOf t ∉ rest.map idOf := fun hm => by rw [List.contains_iff_mem.2 hm] at hc; cases hc
    cases hg : getB (sweepB (dropB (idOf t) L).1) (idOf t) with
    | none => rfl
    | some q =>
      exfalso
      have h1 := hst.uses (idOf t)
      rw [usesB_some hg, List.count_eq_zero.2 hm] at h1
      exact hst.pos q (getB_mem hg).1 h1
theorem UseSt.done {n : Int} {L : HldL} (h : UseSt n L []) : L = [] := by
  cases L with
  | nil => rfl
  | cons y r =>
    exfalso
    have h1 := h.uses y.id
    rw [usesB_some (getB_of_mem h.ok.srt List.mem_cons_self)] at h1
    exact h.pos y List.mem_cons_self (by simpa using h1)
end Go.Proofs.YtpanoplcamdnkaaGreatDoor

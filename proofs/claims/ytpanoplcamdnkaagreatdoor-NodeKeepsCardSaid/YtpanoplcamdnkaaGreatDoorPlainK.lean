/- Plain words: what was put into a node is got, whatever else is put, dropped and swept. No program in sight. No conditions. -/
import Derived.Test.YtpanoplcamdnkaaGreatDoorPlainNd
namespace Go.Proofs.YtpanoplcamdnkaaGreatDoor
open Go.Maps Go.Lib

theorem putN_inv {nm s : Bytes} {P : PNode} (h : (putN nm s P).2.2 = 0) : isName nm = true ∧ s.length ≤ 4000 ∧ alGet P.files nm = none ∧ (putAll (pieces s) (binN P (repOf (idsOf s))) 0).2.2 = 0 ∧
    putN nm s P = (⟨alPut bytesBefore nm (rcpOf nm s) P.files, alPut lesser (repOf (idsOf s)) (putAll (pieces s) (binN P (repOf (idsOf s))) 0).1 P.bins⟩, (putAll (pieces s) (binN P (repOf (idsOf s))) 0).2.1, 0) := by
  unfold putN at h ⊢
  split at h
  · exact absurd (show (4 : Int) = 0 from h) (by decide)
  · next h1 =>
    rw [if_neg h1]
    split at h
    · exact absurd (show (2 : Int) = 0 from h) (by decide)
    · next h2 =>
      rw [if_neg h2]
      split at h
      · exact absurd (show (6 : Int) = 0 from h) (by decide)
      · next h3 =>
        rw [if_neg h3]
        split at h
        · exact absurd (show (7 : Int) = 0 from h) (by decide)
        · next h4 =>
          rw [if_neg h4]
          split at h
          · next h5 =>
            rw [if_pos h5]
            exact ⟨by simpa using h1, by omega, by cases hg : alGet P.files nm with | none => rfl | some _ => rw [hg] at h3; exact absurd rfl h3, h5, rfl⟩
          · next h5 => exact absurd h h5
/-- an act that fails leaves the node -/
theorem putN_err {nm s : Bytes} {P : PNode} (h : (putN nm s P).2.2 ≠ 0) : (putN nm s P).1 = P ∧ (putN nm s P).2.1 = 0 := by
  unfold putN at h ⊢
  split
  · exact ⟨rfl, rfl⟩
  · next h1 =>
    rw [if_neg h1] at h
    split
    · exact ⟨rfl, rfl⟩
    · next h2 =>
      rw [if_neg h2] at h
      split
      · exact ⟨rfl, rfl⟩
      · next h3 =>
        rw [if_neg h3] at h
        split
        · exact ⟨rfl, rfl⟩
        · next h4 =>
          rw [if_neg h4] at h
          split
          · next h5 => rw [if_pos h5] at h; exact absurd rfl h
          · exact ⟨rfl, rfl⟩
theorem binN_put (P : PNode) (F : List (Bytes × Rcp)) (x y : Idn) (L : HldL) : binN ⟨F, alPut lesser x L P.bins⟩ y = if x = y then L else binN P y := by
  unfold binN
  show (alGet (alPut lesser x L P.bins) y).getD [] = _
  rw [alGet_put]
  split <;> rfl
theorem textB_kept {L L' : HldL} {x : Idn} (h : (getB L' x).map Hld.text = (getB L x).map Hld.text) : textB L' x = textB L x := by unfold textB; rw [h]
theorem getN_of {k : Bytes} {r : Rcp} {P : PNode} (h : alGet P.files k = some r) : getN k P = ((r.ids.map (textB (binN P (repR r)))).flatten, 0) := by unfold getN; rw [h]
/-- what was put is got -/
theorem getN_put {nm s : Bytes} {P : PNode} (hP : NodeOk P) (h : (putN nm s P).2.2 = 0) : getN nm (putN nm s P).1 = (s, 0) := by
  obtain ⟨_, _, _, h5, e⟩ := putN_inv h
  have hb := (hP.theBin (repOf (idsOf s))).1
  have hst := putAll_st (pieces s) (binN P (repOf (idsOf s))) 0 hb.srt h5
  rw [e]
  generalize (putAll (pieces s) (binN P (repOf (idsOf s))) 0).1 = L' at hst ⊢
  have hf : alGet (alPut bytesBefore nm (rcpOf nm s) P.files) nm = some (rcpOf nm s) := by rw [alGet_put, if_pos rfl]
  rw [getN_of (P := ⟨alPut bytesBefore nm (rcpOf nm s) P.files, alPut lesser (repOf (idsOf s)) L' P.bins⟩) hf, binN_put, if_pos (show repOf (idsOf s) = repR (rcpOf nm s) from rfl)]
  have hm : (rcpOf nm s).ids.map (textB L') = pieces s := by
    show (idsOf s).map (textB L') = _
    unfold idsOf
    rw [List.map_map]
    conv => rhs; rw [← List.map_id (pieces s)]
    refine List.map_congr_left fun p hp => ?_
    obtain ⟨o, ho, ht⟩ := hst.has p hp
    show ((getB L' (idOf p)).map Hld.text).getD [] = p
    rw [ho]; exact ht
  rw [hm, pieces_flatten]
theorem getN_put_other {nm s k : Bytes} {r : Rcp} {P : PNode} (hP : NodeOk P) (hk : alGet P.files k = some r) : getN k (putN nm s P).1 = getN k P := by
  by_cases h : (putN nm s P).2.2 = 0
  · obtain ⟨_, _, hn, h5, e⟩ := putN_inv h
    have hne : nm ≠ k := fun e => by rw [e, hk] at hn; cases hn
    have hb := (hP.theBin (repOf (idsOf s))).1
    have hst := putAll_st (pieces s) (binN P (repOf (idsOf s))) 0 hb.srt h5
    rw [e]
    generalize (putAll (pieces s) (binN P (repOf (idsOf s))) 0).1 = L' at hst ⊢
    have hf : alGet (alPut bytesBefore nm (rcpOf nm s) P.files) k = some r := by rw [alGet_put, if_neg hne]; exact hk
    rw [getN_of (P := ⟨alPut bytesBefore nm (rcpOf nm s) P.files, alPut lesser (repOf (idsOf s)) L' P.bins⟩) hf, getN_of hk, binN_put]
    by_cases hx : repOf (idsOf s) = repR r
    · rw [if_pos hx]
      obtain ⟨s0, _, _, hr, _, L, hL, _, hall⟩ := hP.get hk
      have hbn : binN P (repR r) = L := by unfold binN; rw [hL]; rfl
      congr 2
      refine List.map_congr_left fun x hx' => ?_
      refine textB_kept ?_
      have hs : (getB L x).isSome = true := hall x (by rw [hr] at hx'; exact hx')
      obtain ⟨o, ho⟩ := Option.isSome_iff_exists.1 hs
      rw [hbn, ho]
      obtain ⟨o', ho', ht⟩ := hst.kept x o (by rw [hx, hbn]; exact ho)
      rw [ho']
      simp [ht]
    · rw [if_neg hx]
  · rw [(putN_err h).1]
theorem getN_drop_other {nm k : Bytes} {r : Rcp} {P : PNode} (hP : NodeOk P) (hk : alGet P.files k = some r) (hne : k ≠ nm) : getN k (dropN nm P).1 = getN k P := by
  unfold dropN
  cases hg : alGet P.files nm with
  | none => rfl
  | some r0 =>
    obtain ⟨_, hst⟩ := hP.drops hg
    simp only
    generalize (dropAll r0.ids (binN P (repR r0))).1 = L' at hst ⊢
    have hf : alGet (alDel nm P.files) k = some r := by rw [alGet_del, if_neg hne]; exact hk
    rw [getN_of (P := ⟨alDel nm P.files, tidyN (alDel nm P.files) (repR r0) L' P.bins⟩) hf, getN_of hk]
    congr 2
    refine List.map_congr_left fun x _ => textB_kept ?_
    have e : binN ⟨alDel nm P.files, tidyN (alDel nm P.files) (repR r0) L' P.bins⟩ (repR r) = if repR r0 = repR r then L' else binN P (repR r) := by
      unfold binN
      show (alGet (tidyN (alDel nm P.files) (repR r0) L' P.bins) (repR r)).getD [] = _
      rw [alGet_tidy]
      by_cases hx : repR r0 = repR r
      · rw [if_pos hx, if_pos hx, if_pos (any_rep.2 ⟨(k, r), alGet_mem hf, hx.symm⟩)]; rfl
      · rw [if_neg hx, if_neg hx]
    rw [e]
    by_cases hx : repR r0 = repR r
    · rw [if_pos hx, hst.kept, hx]
    · rw [if_neg hx]
theorem getN_sweep {k : Bytes} {r : Rcp} {P : PNode} (hP : NodeOk P) (hk : alGet P.files k = some r) : getN k (sweepN P) = getN k P := by
  have hk' : alGet (sweepN P).files k = some r := hk
  rw [getN_of hk', getN_of hk]
  congr 2
  obtain ⟨s0, hnm, hsz, hr, _, L, hL, _, hall⟩ := hP.get hk
  have hbn : binN P (repR r) = L := by unfold binN; rw [hL]; rfl
  have hbs : binN (sweepN P) (repR r) = sweepB L := by
    unfold binN
    show (alGet (alMap sweepB P.bins) (repR r)).getD [] = _
    rw [alGet_map, hL]; rfl
  refine List.map_congr_left fun x hx => textB_kept ?_
  rw [hbn, hbs]
  have hb := hP.bin7 hL
  have hx' : x ∈ idsOf s0 := by rw [hr] at hx; exact hx
  obtain ⟨o, ho⟩ := Option.isSome_iff_exists.1 (hall x hx')
  rw [getB_sweep hb.srt, ho]
  simp only
  have hu := (hP.bin _ _ hL).2.2.2.1 x
  rw [usesB_some ho, useN_del hP.fsrt hk, if_pos rfl] at hu
  have h1 := useN_nonneg (alDel k P.files) (repR r) x
  have h2 : 0 < r.ids.count x := List.count_pos_iff.2 hx
  rw [if_neg (by omega)]
/-! ### names and texts that were put -/
structure KeepSt (P : PNode) (Z : List (Bytes × Bytes)) : Prop where
  nd : (Z.map (·.1)).Nodup
  mem : ∀ k, (alGet P.files k).isSome = true ↔ k ∈ Z.map (·.1)
  get : ∀ z ∈ Z, getN z.1 P = (z.2, 0)
theorem KeepSt.nil : KeepSt ⟨[], []⟩ [] := ⟨List.nodup_nil, fun k => by simp [alGet], fun z hz => absurd hz List.not_mem_nil⟩
theorem KeepSt.file {P : PNode} {Z : List (Bytes × Bytes)} (h : KeepSt P Z) {z : Bytes × Bytes} (hz : z ∈ Z) : ∃ r, alGet P.files z.1 = some r :=
  Option.isSome_iff_exists.1 ((h.mem z.1).2 (List.mem_map_of_mem (f := fun z : Bytes × Bytes => z.1) hz))
theorem KeepSt.put {P : PNode} {Z : List (Bytes × Bytes)} (hP : NodeOk P) (h : KeepSt P Z) {nm s : Bytes} (hc : (putN nm s P).2.2 = 0) : KeepSt (putN nm s P).1 (Z ++ [(nm, s)]) := by
  obtain ⟨_, _, hn, _, e⟩ := putN_inv hc
  have hnz : nm ∉ Z.map (·.1) := fun hm => by rw [← h.mem, hn] at hm; cases hm
  refine ⟨?_, fun k => ?_, fun z hz => ?_⟩
  · rw [List.map_append]
    exact List.nodup_append.2 ⟨h.nd, by simp, fun a ha b hb e2 => by
      rw [List.map_cons, List.map_nil, List.mem_singleton] at hb
      have e3 : a = nm := e2.trans hb
      exact hnz (e3 ▸ ha)⟩
  · rw [List.map_append, List.mem_append, ← h.mem, e]
    show (alGet (alPut bytesBefore nm (rcpOf nm s) P.files) k).isSome = true ↔ _
    rw [alGet_put, List.map_cons, List.map_nil, List.mem_singleton]
    by_cases hk : nm = k
    · rw [if_pos hk]; exact ⟨fun _ => .inr hk.symm, fun _ => rfl⟩
    · rw [if_neg hk]; exact ⟨.inl, fun h => h.elim id (fun h => absurd h.symm hk)⟩
  · rcases List.mem_append.1 hz with hz | hz
    · obtain ⟨r, hr⟩ := h.file hz
      rw [getN_put_other hP hr]
      exact h.get z hz
    · rw [List.mem_singleton.1 hz]
      exact getN_put hP hc
theorem KeepSt.drop {P : PNode} {Z : List (Bytes × Bytes)} (hP : NodeOk P) (h : KeepSt P Z) (nm : Bytes) : KeepSt (dropN nm P).1 (Z.filter fun z => !decide (z.1 = nm)) := by
  have hf : ∀ k, alGet (dropN nm P).1.files k = if k = nm then none else alGet P.files k := fun k => by
    unfold dropN
    cases hg : alGet P.files nm with
    | none =>
      show alGet P.files k = _
      split
      · next e => rw [e, hg]
      · rfl
    | some r => exact alGet_del P.files nm k
  refine ⟨?_, fun k => ?_, fun z hz => ?_⟩
  · exact h.nd.sublist (List.Sublist.map _ List.filter_sublist)
  · rw [hf]
    by_cases hk : k = nm
    · rw [if_pos hk]
      refine ⟨fun h => (by cases h), fun hm => ?_⟩
      obtain ⟨z, hz, e⟩ := List.mem_map.1 hm
      have := (List.mem_filter.1 hz).2
      simp at this
      exact absurd (e.trans hk) this
    · rw [if_neg hk, h.mem]
      refine ⟨fun hm => ?_, fun hm => ?_⟩
      · obtain ⟨z, hz, e⟩ := List.mem_map.1 hm
        exact List.mem_map.2 ⟨z, List.mem_filter.2 ⟨hz, by simp [e, hk]⟩, e⟩
      · obtain ⟨z, hz, e⟩ := List.mem_map.1 hm
        exact List.mem_map.2 ⟨z, (List.mem_filter.1 hz).1, e⟩
  · obtain ⟨hz1, hz2⟩ := List.mem_filter.1 hz
    obtain ⟨r, hr⟩ := h.file hz1
    rw [getN_drop_other hP hr (by simpa using hz2)]
    exact h.get z hz1
theorem KeepSt.sweep {P : PNode} {Z : List (Bytes × Bytes)} (hP : NodeOk P) (h : KeepSt P Z) : KeepSt (sweepN P) Z :=
  ⟨h.nd, h.mem, fun z hz => by obtain ⟨r, hr⟩ := h.file hz; rw [getN_sweep hP hr]; exact h.get z hz⟩
theorem KeepSt.len {P : PNode} {Z : List (Bytes × Bytes)} (hP : NodeOk P) (h : KeepSt P Z) : P.files.length = Z.length := by
  have h1 := nodup_len (A := P.files.map (·.1)) (B := Z.map (·.1)) (al_nodup strEmb hP.fsrt) (fun k hk => by
    obtain ⟨q, hq, rfl⟩ := List.mem_map.1 hk
    rw [← h.mem, alGet_of_mem strEmb hP.fsrt hq]; rfl)
  have h2 := nodup_len (A := Z.map (·.1)) (B := P.files.map (·.1)) h.nd (fun k hk => by
    rw [← h.mem] at hk
    obtain ⟨r, hr⟩ := Option.isSome_iff_exists.1 hk
    exact List.mem_map_of_mem (f := fun q : Bytes × Rcp => q.1) (alGet_mem hr))
  simp only [List.length_map] at h1 h2
  omega
theorem KeepSt.dropped {P : PNode} {Z : List (Bytes × Bytes)} (h : KeepSt P Z) (nm : Bytes) : ((dropN nm P).2 = 0 ∧ (Z.filter fun z => !decide (z.1 = nm)).length < Z.length) ∨ ((dropN nm P).2 = 5 ∧ (Z.filter fun z => !decide (z.1 = nm)).length = Z.length) := by
  unfold dropN
  cases hg : alGet P.files nm with
  | none =>
    right
    have hn : nm ∉ Z.map (·.1) := fun hm => by rw [← h.mem, hg] at hm; cases hm
    refine ⟨rfl, ?_⟩
    congr 1
    rw [List.filter_eq_self]
    intro z hz
    have : z.1 ≠ nm := fun e => hn (e ▸ List.mem_map_of_mem (f := fun z : Bytes × Bytes => z.1) hz)
    simp [this]
  | some r =>
    left
    have hm : nm ∈ Z.map (·.1) := by rw [← h.mem, hg]; rfl
    obtain ⟨z, hz, e⟩ := List.mem_map.1 hm
    refine ⟨rfl, ?_⟩
    refine Classical.byContradiction fun hge => ?_
    have h1 := List.length_filter_le (fun z : Bytes × Bytes => !decide (z.1 = nm)) Z
    have h2 := (List.length_filter_eq_length_iff (p := fun z : Bytes × Bytes => !decide (z.1 = nm)) (l := Z)).1 (by omega) z hz
    simp at h2
    exact h2 e
/-- the same text under another name: no byte is new -/
theorem KeepSt.again {P : PNode} {Z : List (Bytes × Bytes)} (hP : NodeOk P) (h : KeepSt P Z) {z : Bytes × Bytes} (hz : z ∈ Z) (other : Bytes) : (putN other z.2 P).2.1 = 0 := by
  by_cases hc : (putN other z.2 P).2.2 = 0
  · obtain ⟨_, _, _, _, e⟩ := putN_inv hc
    rw [e]
    show (putAll (pieces z.2) (binN P (repOf (idsOf z.2))) 0).2.1 = 0
    obtain ⟨r, hr⟩ := h.file hz
    obtain ⟨s, _, hsz, hrr, hgn, L, hL, hmp, hall⟩ := hP.get hr
    have hs : s = z.2 := by
      have := h.get z hz
      rw [hgn] at this
      exact congrArg (·.1) this
    subst hs
    have hbn : binN P (repOf (idsOf z.2)) = L := by
      have hL' : alGet P.bins (repOf (idsOf z.2)) = some L := by rw [hrr] at hL; exact hL
      unfold binN; rw [hL']; rfl
    rw [hbn, putAll_old (pieces z.2) L 0 (hP.bin7 hL).srt (fun p hp => ⟨piece_ok hp, ?_⟩)]
    have hx : idOf p ∈ idsOf z.2 := List.mem_map_of_mem hp
    obtain ⟨o, ho⟩ := Option.isSome_iff_exists.1 (hall _ hx)
    refine ⟨o, ho, ?_⟩
    have hpt : textB L (idOf p) = p := by
      unfold idsOf at hmp
      rw [List.map_map] at hmp
      have h2 : (pieces z.2).map (textB L ∘ idOf) = (pieces z.2).map id := by rw [hmp, List.map_id]
      exact List.map_inj_left.1 h2 p hp
    unfold textB at hpt
    rw [ho] at hpt
    exact hpt
  · exact (putN_err hc).2
end Go.Proofs.YtpanoplcamdnkaaGreatDoor

/- Nodes in memory: what a node is once a map of it was written. No conditions. -/
import Derived.Test.YthddgclmnbaloaaDoorNdE
import Derived.Test.YthddgclmnbaloaaDoorNdA
namespace Go.Proofs.YthddgclmnbaloaaDoor
open Go.RowKit Go.Lib Go.Maps Go.WideMaps

theorem RdI.stay {w w' : World} {B : Nat} {v : Value} {L : IdL} (h : RdI w B v L) (hs : Stay w w') : RdI w' B v L := by
  obtain ⟨A, c, hv, hl, hc, hx⟩ := h
  refine ⟨A, c, hv, hl, hc, fun h0 => ?_⟩
  obtain ⟨g, o, hA, hg, hcell⟩ := hx h0
  exact ⟨g, o, hA, hg, fun k u hu => hs _ _ (hcell k u hu)⟩
section
variable {K V U : Type} [DecidableEq K] {lt : K → K → Bool}
theorem alPut_map_mem (g : V → U) {k : K} {v : V} {L : List (K × V)} {u : U} (h : u ∈ (alPut lt k v L).map (fun q => g q.2)) : u = g v ∨ u ∈ L.map (fun q => g q.2) := by
  obtain ⟨q, hq, rfl⟩ := List.mem_map.1 h
  rcases alPut_mem hq with rfl | hq
  · exact .inl rfl
  · exact .inr (List.mem_map_of_mem (f := fun q : K × V => g q.2) hq)
theorem alPut_map_nodup (g : V → U) {k : K} {v : V} : ∀ {L : List (K × V)}, (L.map (fun q => g q.2)).Nodup → g v ∉ L.map (fun q => g q.2) → ((alPut lt k v L).map (fun q => g q.2)).Nodup
  | [], _, _ => by simp [alPut]
  | y :: r, hn, hv => by
    rw [List.map_cons, List.nodup_cons] at hn
    rw [List.map_cons, List.mem_cons, not_or] at hv
    unfold alPut
    split
    · rw [List.map_cons, List.nodup_cons]; exact ⟨hv.2, hn.2⟩
    · split
      · rw [List.map_cons, List.map_cons, List.nodup_cons, List.nodup_cons, List.mem_cons, not_or]; exact ⟨hv, hn⟩
      · rw [List.map_cons, List.nodup_cons]
        refine ⟨fun hm => ?_, alPut_map_nodup g hn.2 hv.2⟩
        rcases alPut_map_mem g hm with e | e
        · exact hv.1 e.symm
        · exact hn.1 e
theorem alDel_map_nodup (g : V → U) (k : K) {L : List (K × V)} (h : (L.map (fun q => g q.2)).Nodup) : ((alDel k L).map (fun q => g q.2)).Nodup := by
  unfold alDel
  exact h.sublist (List.Sublist.map _ List.filter_sublist)
theorem alDel_put (k : K) (v : V) : ∀ (L : List (K × V)), alDel k (alPut lt k v L) = alDel k L
  | [] => by simp [alPut, alDel]
  | y :: r => by
    unfold alPut
    by_cases e : y.1 = k
    · rw [if_pos e]; unfold alDel; simp [e]
    · rw [if_neg e]
      split
      · unfold alDel; simp
      · have := alDel_put k v r
        unfold alDel at this ⊢
        rw [List.filter_cons, List.filter_cons, this]
end
theorem ONode.cells_ne {n fm bm : Nat} {F : FL} {B : BL} {w : World} (h : ONode n fm bm F B w) {k : Nat} (hk : ∃ cs t z, w.heap[k]? = some (.cells cs t z)) : k ≠ fm ∧ k ≠ bm := by
  obtain ⟨cs, t, z, hk⟩ := hk
  obtain ⟨e1, c1, h1⟩ := h.files.isMap
  obtain ⟨e2, c2, h2⟩ := h.bins.isMap
  refine ⟨fun e => ?_, fun e => ?_⟩
  · rw [e, h1] at hk; cases hk
  · rw [e, h2] at hk; cases hk
theorem ONode.setF {n fm bm : Nat} {F F' : FL} {B : BL} {w w' : World} (h : ONode n fm bm F B w) (hg : w.grownBy w' (some fm)) (hs : Stay w w') (hm : AlMap Tryd.prog 9 strLit feV fm F' w') (hr : ∀ q ∈ F', q ∈ F ∨ RdI w' w'.heap.size q.2.sl q.2.r.ids) : ONode n fm bm F' B w' := by
  have hnd := h.nd
  rw [List.nodup_cons, List.nodup_cons] at hnd
  have ne : ∀ {k : Nat}, k ≠ fm → some k ≠ some fm := fun hk e => hk (by injection e)
  refine ⟨(hg.block n h.nlt (ne (h.cells_ne ⟨_, _, _, h.row⟩).1)).trans h.row, hm, h.bins.keep (hg.block bm h.bins.blt (ne fun e => hnd.1 (by rw [e]; exact List.mem_cons_self))), fun q hq => ?_, fun q hq => ?_, h.nd⟩
  · rcases hr q hq with h1 | h1
    · exact ((h.rd q h1).stay hs).more hg.size
    · exact h1
  · have ho := h.bin q hq
    exact ho.keep (hg.block _ ho.lt (ne (h.cells_ne ⟨_, _, _, ho.row⟩).1)) (hg.block _ ho.map.lt (ne fun e => hnd.1 (List.mem_cons_of_mem _ (e ▸ List.mem_map_of_mem (f := fun q : Idn × BE => q.2.mb) hq))))
theorem ONode.setB {n fm bm : Nat} {F : FL} {B B' : BL} {w w' : World} (h : ONode n fm bm F B w) (hg : w.grownBy w' (some bm)) (hs : Stay w w') (hm : AlMap Tryd.prog 44 idLit beV bm B' w') (hr : ∀ q ∈ B', q ∈ B ∨ OBin q.2.b q.2.mb q.2.L w') (hnd' : (fm :: bm :: B'.map (fun q => q.2.mb)).Nodup) : ONode n fm bm F B' w' := by
  have hnd := h.nd
  rw [List.nodup_cons, List.nodup_cons] at hnd
  have ne : ∀ {k : Nat}, k ≠ bm → some k ≠ some bm := fun hk e => hk (by injection e)
  refine ⟨(hg.block n h.nlt (ne (h.cells_ne ⟨_, _, _, h.row⟩).2)).trans h.row, h.files.keep (hg.block fm h.files.blt (ne fun e => hnd.1 (by rw [← e]; exact List.mem_cons_self))), hm, fun q hq => ((h.rd q hq).stay hs).more hg.size, fun q hq => ?_, hnd'⟩
  rcases hr q hq with h1 | h1
  · have ho := h.bin q h1
    exact ho.keep (hg.block _ ho.lt (ne (h.cells_ne ⟨_, _, _, ho.row⟩).2)) (hg.block _ ho.map.lt (ne fun e => hnd.2.1 (e ▸ List.mem_map_of_mem (f := fun q : Idn × BE => q.2.mb) h1)))
  · exact h1
/-- the blocks of a node into which a file was put -/
theorem foot_put {n fm bm : Nat} {F : FL} {B : BL} {nm : Bytes} {fe : FE} {x : Idn} {be : BE} {b : Nat} (h1 : ∀ k, fe.sl.ownBlock = some k → fe.r.ids ≠ [] → b ≤ k) (h2 : b ≤ be.b) (h3 : b ≤ be.mb) :
    (nodeFoot n fm bm F B).new (nodeFoot n fm bm (alPut bytesBefore nm fe F) (alPut lesser x be B)) b := fun k => by
  refine ⟨?_, ?_⟩
  · rintro (rfl | rfl | ⟨q, hq, rfl⟩)
    · exact .inl (.inl rfl)
    · exact .inl (.inr (.inl rfl))
    · rcases alPut_mem hq with rfl | hq
      · exact .inr h3
      · exact .inl (.inr (.inr ⟨q, hq, rfl⟩))
  · rintro (rfl | ⟨q, hq, rfl⟩ | ⟨q, hq, e, hne⟩)
    · exact .inl (.inl rfl)
    · rcases alPut_mem hq with rfl | hq
      · exact .inr h2
      · exact .inl (.inr (.inl ⟨q, hq, rfl⟩))
    · rcases alPut_mem hq with rfl | hq
      · exact .inr (h1 k e hne)
      · exact .inl (.inr (.inr ⟨q, hq, e, hne⟩))
theorem RdB.above {w : World} {lo hi : Nat} {v : Value} {L : IdL} (h : RdB w lo hi v L) : ∀ k, v.ownBlock = some k → L ≠ [] → lo ≤ k := fun k e hne => by
  obtain ⟨A, c, hv, _, hx⟩ := h
  obtain ⟨g, o, hA, h1, _⟩ := hx (List.length_pos_iff.2 hne)
  rw [hv, hA] at e
  injection e with e
  rw [← e]; exact h1
end Go.Proofs.YthddgclmnbaloaaDoor

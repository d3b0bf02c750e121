/- The tape's buffer: a row of bytes of the call's own, whose capacity may end ahead of its block, and behind whose bytes nothing is frozen; appending a text's bytes. No program in sight. No conditions but bounds. -/
import Derived.Lib.FrozenHead
import Derived.Lib.ConvBytes
import Derived.Lib.AtoiErrMem
import Derived.Deep.RegionLaw
import Derived.Below
import Derived.WalkKit
namespace Go.Proofs.YtpacalklcdlhoaaDoor
open Go.RowKit Go.Lib

/-- the cells of bytes -/
def VB (l : List UInt8) : List Value := l.map fun b => Value.int .u8 b.toNat
theorem VB_length (l : List UInt8) : (VB l).length = l.length := List.length_map _
theorem strCells_VB (s : ByteArray) : strCells s = VB s.data.toList := rfl
/-- v is the buffer of the bytes l, in block g -/
def Buf (e : TypeId) (g : Nat) (l : List UInt8) (v : Value) (w : World) : Prop :=
  ∃ cap cur fz, v = .slice (some ⟨g, 0, none⟩) l.length cap ∧ w.heap[g]? = some (.cells cur e fz) ∧ l.length ≤ cap ∧ cap ≤ cur.size ∧ cap ≤ maxLen ∧ (fz.2 = 0 ∨ cap ≤ fz.1 ∨ cap = l.length) ∧ cur.toList.take l.length = VB l
theorem Buf.lt {e : TypeId} {g : Nat} {l : List UInt8} {v : Value} {w : World} (h : Buf e g l v w) : g < w.heap.size := by
  obtain ⟨cap, cur, fz, _, h, _⟩ := h
  exact (Array.getElem?_eq_some_iff.1 h).1
theorem Buf.keep {e : TypeId} {g : Nat} {l : List UInt8} {v : Value} {w w' : World} (h : Buf e g l v w) (hk : w'.heap[g]? = w.heap[g]?) : Buf e g l v w' := by
  obtain ⟨cap, cur, fz, h1, h2, h3⟩ := h
  exact ⟨cap, cur, fz, h1, hk.trans h2, h3⟩
theorem Buf.cell {e : TypeId} {g : Nat} {l : List UInt8} {v : Value} {w : World} (h : Buf e g l v w) (j : Nat) (hj : j < l.length) : w.cell? ⟨g, j, none⟩ = some (.int .u8 l[j].toNat) := by
  obtain ⟨cap, cur, fz, h1, h2, h3, h4, h5, h6, h7⟩ := h
  rw [cell_of_row w g j cur e fz h2]
  have : cur.toList[j]? = (VB l)[j]? := by rw [← h7, List.getElem?_take, if_pos hj]
  rw [← Array.getElem?_toList, this]
  simp [VB, hj]
/-- a shorter beginning, its capacity its length -/
theorem Buf.take {e : TypeId} {g : Nat} {l : List UInt8} {cap : Nat} {w : World} (h : Buf e g l (.slice (some ⟨g, 0, none⟩) l.length cap) w) (k : Nat) (hk : k ≤ l.length) : Buf e g (l.take k) (.slice (some ⟨g, 0, none⟩) k k) w := by
  obtain ⟨cap', cur, fz, h1, h2, h3, h4, h5, h6, h7⟩ := h
  injection h1 with _ _ h1
  subst h1
  have hl : (l.take k).length = k := by rw [List.length_take]; omega
  refine ⟨k, cur, fz, by rw [hl], h2, by rw [hl]; exact Nat.le_refl _, by omega, by omega, .inr (.inr (by rw [hl])), ?_⟩
  · rw [hl]
    have : cur.toList.take k = (cur.toList.take l.length).take k := by rw [List.take_take, Nat.min_eq_left hk]
    rw [this, h7, VB, VB, List.map_take]
/-- 'run_storeCells_at', none of the cells that are written being frozen -/
theorem run_storeCells_atG (P : Program) (g : Nat) (t : TypeId) (fz : Nat × Nat) : ∀ (vs : List Value) (o i : Nat) (cur : Array Value) (w : World), w.heap[g]? = some (.cells cur t fz) → (∀ j, o + i ≤ j → j < o + i + vs.length → ¬ (fz.1 ≤ j ∧ j < fz.2)) → o + i + vs.length ≤ cur.size → (∀ v ∈ vs, v.oneCell' = true) →
    (storeCells ⟨g, o, none⟩ vs i).run P w = .ok () (w.setRow g (cur.toList.take (o + i) ++ vs ++ cur.toList.drop (o + i + vs.length)).toArray)
  | [], o, i, cur, w, hg, _, _, _ => by
    simp only [storeCells, List.append_nil, List.length_nil, Nat.add_zero, List.take_append_drop, Array.toArray_toList]
    rw [setRow_self w g cur t fz hg]
    rfl
  | v :: rest, o, i, cur, w, hg, hfz, hl, h1 => by
    have hi : o + i < cur.size := by simp at hl; omega
    have hadd : (⟨g, o, none⟩ : Addr).add i = ⟨g, o + i, none⟩ := by unfold Addr.add; split <;> simp_all
    have hcell : w.cell? ⟨g, o + i, none⟩ = some cur[o + i] := by simp [World.cell?, hg, hi]
    have hfro : w.frozen? ⟨g, o + i, none⟩ = false := by
      have hj := hfz (o + i) (Nat.le_refl _) (by simp)
      obtain ⟨lo, hi'⟩ := fz
      simp only at hj
      simp only [World.frozen?, hg, Bool.and_eq_false_iff, decide_eq_false_iff_not]
      rcases Nat.lt_or_ge (o + i) lo with h | h
      · left; omega
      · right; intro h2; exact hj ⟨h, h2⟩
    have hst : (store ((⟨g, o, none⟩ : Addr).add i) v).run P w = .ok () (w.setRow g (cur.setIfInBounds (o + i) v)) := by
      rw [hadd, run_store P w _ v _ (h1 v (by simp)), hcell]
      simp [hfro, setCell_eq_setRow w g (o + i) cur t fz v hg]
    have ih := run_storeCells_atG P g t fz rest o (i + 1) (cur.setIfInBounds (o + i) v) (w.setRow g (cur.setIfInBounds (o + i) v)) (setRow_heap w g cur _ t _ hg) (fun j h2 h3 => hfz j (by omega) (by simp; omega)) (by simp at hl ⊢; omega) (fun x hx => h1 x (by simp [hx]))
    simp only [storeCells, Sem.run_bind, hst, Result.andThen_ok, ih, setRow_setRow]
    congr 3
    have e := list_seg_step cur.toList (o + i) v rest (by simp at hl ⊢; omega)
    simpa [Array.toList_setIfInBounds, Nat.add_assoc] using e
section
variable {P : Program}
theorem buf_append (w : World) (t u ty e : TypeId) (i : TypeInfo) (ht : P.underlying t = some (.slice e)) (hu : P.underlying u = some .string) (hi : P.info? e = some i) (hz : i.zero = some (.int .u8 0))
    (hsize : i.size = 1) (hby : i.bytes = 1) (g : Nat) (l : List UInt8) (v : Value) (h : Buf e g l v w) (s : ByteArray) (hb : l.length + s.size ≤ 2 ^ 40) :
    ∃ v' w' g', (Builtin.append_ #[t, u] ty #[v, .string s]).run P w = .ok v' w' ∧ Buf e g' (l ++ s.data.toList) v' w' ∧ (g' = g ∨ g' = w.heap.size) ∧ w.grownBy w' (some g) := by
  obtain ⟨cap, cur, fz, rfl, hg, hlc, hcs, hcm, hfz, htk⟩ := h
  have hss : s.data.toList.length = s.size := by simp
  have hll : (l ++ s.data.toList).length = l.length + s.size := by rw [List.length_append, hss]
  have hvb : VB (l ++ s.data.toList) = VB l ++ strCells s := by rw [strCells_VB]; unfold VB; rw [List.map_append]
  by_cases hroom : l.length + s.size ≤ cap
  · have hf := run_firstCells_string (P := P) w 1 s
    have hst := run_storeCells_atG P g e fz (strCells s) l.length 0 cur w hg (fun j h1 h2 => by
      rw [strCells_length] at h2
      rcases hfz with h | h | h <;> omega) (by rw [strCells_length]; omega) (strCells_oneCell s)
    simp only [Nat.add_zero, strCells_length] at hst
    have hr : (Builtin.append_ #[t, u] ty #[.slice (some ⟨g, 0, none⟩) l.length cap, .string s]).run P w =
      .ok (.slice (some ⟨g, 0, none⟩) (l.length + s.size) cap) (w.setRow g (cur.toList.take l.length ++ strCells s ++ cur.toList.drop (l.length + s.size)).toArray) := by
      simp [Builtin.append_, run_underlying ht, run_underlying hu, sizeOf, typeInfo, hi, hsize, Builtin.lenOf, hroom, hf, Addr.add_lit, hst]
    refine ⟨_, _, g, hr, ⟨cap, _, fz, by rw [hll], setRow_heap w g cur _ e _ hg, by rw [hll]; exact hroom, ?_, hcm, ?_, ?_⟩, .inl rfl, ⟨rfl, rfl, rfl, by simp, fun k _ hk => setRow_other w g k _ (fun e => hk (by simp [e]))⟩⟩
    · simp only [List.size_toArray, List.length_append, List.length_take, List.length_drop, Array.length_toList, strCells_length]
      omega
    · rcases hfz with h | h | h
      · exact .inl h
      · exact .inr (.inl h)
      · exact .inr (.inr (by rw [hll]; omega))
    · rw [hll, hvb, htk]
      have : (VB l ++ strCells s).length = l.length + s.size := by rw [List.length_append, VB_length, strCells_length]
      rw [← this]
      exact List.take_left
  · have holds : ∀ j u, (VB l)[j]? = some u → w.cell? ((⟨g, 0, none⟩ : Addr).add j) = some u := fun j u hj => by
      have hadd : (⟨g, 0, none⟩ : Addr).add j = ⟨g, j, none⟩ := by unfold Addr.add; split <;> simp_all
      rw [hadd, cell_of_row w g j cur e fz hg]
      rw [← htk, List.getElem?_take] at hj
      split at hj
      · simpa using hj
      · cases hj
    have h63 : l.length + s.size ≤ maxLen := by unfold maxLen; omega
    have hr := run_append_grow_string (P := P) w t u ty e i (.int .u8 0) ht hu hi hz ⟨g, 0, none⟩ l.length cap (VB l) (by rw [hsize, VB_length]; omega) holds s (by omega) (by omega) (by rw [hby]; exact growslice_fits (by omega) (by omega))
    have hge := grownCap_ge w (l.length + s.size) cap e
    have hcm2 : grownCap w (l.length + s.size) cap e ≤ maxLen := grownCap_le_maxLen w (l.length + s.size) cap e h63
    refine ⟨_, _, w.heap.size, hr, ⟨_, _, (0, 0), by rw [hll], heap_alloc_new w.drew _, by rw [hll]; exact hge, ?_, hcm2, .inl rfl, ?_⟩, .inr rfl, ⟨rfl, rfl, rfl, by simp, fun k hk _ => heap_alloc_old w.drew _ hk⟩⟩
    · have hz1 : (Value.int IntKind.u8 0).cells.size = 1 := rfl
      simp only [Array.size_append, List.size_toArray, size_zeroCells, hz1, VB_length, strCells_length]
      omega
    · rw [hll, hvb]
      simp only [Array.toList_append, List.append_assoc]
      have : (VB l ++ strCells s).length = l.length + s.size := by rw [List.length_append, VB_length, strCells_length]
      rw [← List.append_assoc, ← this]
      exact List.take_left
/-- the buffer that '[]byte(s)' makes -/
theorem buf_new (w : World) (e : TypeId) (s : ByteArray) (hb : s.size ≤ 2 ^ 40) : Buf e w.heap.size s.data.toList (.slice (some ⟨w.heap.size, 0, none⟩) s.size (grownCap w s.size 0 e)) (bytesWorld w e s) := by
  have hss : s.data.toList.length = s.size := by simp
  have hge := grownCap_ge w s.size 0 e
  have hcm : grownCap w s.size 0 e ≤ maxLen := grownCap_le_maxLen w s.size 0 e (by unfold maxLen; omega)
  have hsz : (bytesCells w e s).size = grownCap w s.size 0 e := by unfold bytesCells; simp; omega
  refine ⟨_, _, _, by rw [hss], bytesWorld_at_new w e s, by rw [hss]; exact hge, by rw [hsz]; exact Nat.le_refl _, hcm, .inr (.inl (by rw [hsz]; exact Nat.le_refl _)), ?_⟩
  rw [hss]
  unfold bytesCells VB
  rw [Array.toList_append, List.take_append_of_le_length (by simp)]
  rw [List.take_of_length_le (by simp)]
  simp
end
end Go.Proofs.YtpacalklcdlhoaaDoor

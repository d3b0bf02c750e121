/- TapB, TapD, TapE, TapF, TapG, TapH in one text. Conditions: as each part says. -/
import Derived.Lib.FrozenHead
import Derived.Lib.ConvBytes
import Derived.Lib.AtoiErrMem
import Derived.Deep.RegionLaw
import Derived.Below
import Derived.WalkKit
import Derived.Test.YtpacalklcdlhoaaDoorEv
import Derived.Test.YtpacalklcdlhoaaDoorPlainA
import Derived.Deep.QuietTactic
import Derived.BigQuiet
import Derived.Lib.SlFresh
import Derived.Lib.ItoaMem
import Derived.Test.YtpacalklcdlhoaaDoorRead
import Derived.Test.YtpacalklcdlhoaaDoorTapQ
import Derived.Test.YtpacalklcdlhoaaDoorPlainS
import Derived.Test.YtpacalklcdlhoaaDoorHeldN
/- The tape's buffer: a row of bytes of the call's own, whose capacity may end ahead of its block, and behind whose bytes nothing is frozen; appending a text's bytes. No program in sight. No conditions but bounds. -/
namespace Go.Proofs.YtpacalklcdlhoaaDoor
open Go.RowKit Go.Lib

/-- the cells of bytes -/
def VB (l : List UInt8) : List Value := l.map fun b => Value.int .u8 b.toNat
theorem VB_length (l : List UInt8) : (VB l).length = l.length := List.length_map _
theorem strCells_VB (s : ByteArray) : strCells s = VB s.data.toList := rfl
/-- v is the buffer of the bytes l, in block g -/
def Buf (e : TypeId) (g : Nat) (l : List UInt8) (v : Value) (w : World) : Prop :=
  ∃ cap cur fz, v = .slice (some ⟨g, 0, none⟩) l.length cap ∧ w.heap[g]? = some (.cells cur e fz) ∧ l.length ≤ cap ∧ cap ≤ cur.size ∧ cap ≤ maxLen ∧ (fz.2 = 0 ∨ cap ≤ fz.1 ∨ cap = l.length) ∧ cur.toList.take l.length = VB l
theorem Buf.lt {e : TypeId} {g : Nat} {l : List UInt8} {v : Value} {w : World} (h : Buf e g l v w) : g < w.heap.size := by
  obtain ⟨cap, cur, fz, _, h, _⟩ := h
  exact (Array.getElem?_eq_some_iff.1 h).1
theorem Buf.keep {e : TypeId} {g : Nat} {l : List UInt8} {v : Value} {w w' : World} (h : Buf e g l v w) (hk : w'.heap[g]? = w.heap[g]?) : Buf e g l v w' := by
  obtain ⟨cap, cur, fz, h1, h2, h3⟩ := h
  exact ⟨cap, cur, fz, h1, hk.trans h2, h3⟩
theorem Buf.cell {e : TypeId} {g : Nat} {l : List UInt8} {v : Value} {w : World} (h : Buf e g l v w) (j : Nat) (hj : j < l.length) : w.cell? ⟨g, j, none⟩ = some (.int .u8 l[j].toNat) := by
  obtain ⟨cap, cur, fz, h1, h2, h3, h4, h5, h6, h7⟩ := h
  rw [cell_of_row w g j cur e fz h2]
  have : cur.toList[j]? = (VB l)[j]? := by rw [← h7, List.getElem?_take, if_pos hj]
  rw [← Array.getElem?_toList, this]
  simp [VB, hj]
/-- a shorter beginning, its capacity its length -/
theorem Buf.take {e : TypeId} {g : Nat} {l : List UInt8} {cap : Nat} {w : World} (h : Buf e g l (.slice (some ⟨g, 0, none⟩) l.length cap) w) (k : Nat) (hk : k ≤ l.length) : Buf e g (l.take k) (.slice (some ⟨g, 0, none⟩) k k) w := by
  obtain ⟨cap', cur, fz, h1, h2, h3, h4, h5, h6, h7⟩ := h
  injection h1 with _ _ h1
  subst h1
  have hl : (l.take k).length = k := by rw [List.length_take]; omega
  refine ⟨k, cur, fz, by rw [hl], h2, by rw [hl]; exact Nat.le_refl _, by omega, by omega, .inr (.inr (by rw [hl])), ?_⟩
  · rw [hl]
    have : cur.toList.take k = (cur.toList.take l.length).take k := by rw [List.take_take, Nat.min_eq_left hk]
    rw [this, h7, VB, VB, List.map_take]
/-- 'run_storeCells_at', none of the cells that are written being frozen -/
theorem run_storeCells_atG (P : Program) (g : Nat) (t : TypeId) (fz : Nat × Nat) : ∀ (vs : List Value) (o i : Nat) (cur : Array Value) (w : World), w.heap[g]? = some (.cells cur t fz) → (∀ j, o + i ≤ j → j < o + i + vs.length → ¬ (fz.1 ≤ j ∧ j < fz.2)) → o + i + vs.length ≤ cur.size → (∀ v ∈ vs, v.oneCell' = true) →
    (storeCells ⟨g, o, none⟩ vs i).run P w = .ok () (w.setRow g (cur.toList.take (o + i) ++ vs ++ cur.toList.drop (o + i + vs.length)).toArray)
  | [], o, i, cur, w, hg, _, _, _ => by
    simp only [storeCells, List.append_nil, List.length_nil, Nat.add_zero, List.take_append_drop, Array.toArray_toList]
    rw [setRow_self w g cur t fz hg]
    rfl
  | v :: rest, o, i, cur, w, hg, hfz, hl, h1 => by
    have hi : o + i < cur.size := by simp at hl; omega
    have hadd : (⟨g, o, none⟩ : Addr).add i = ⟨g, o + i, none⟩ := by unfold Addr.add; split <;> simp_all
    have hcell : w.cell? ⟨g, o + i, none⟩ = some cur[o + i] := by simp [World.cell?, hg, hi]
    have hfro : w.frozen? ⟨g, o + i, none⟩ = false := by
      have hj := hfz (o + i) (Nat.le_refl _) (by simp)
      obtain ⟨lo, hi'⟩ := fz
      simp only at hj
      simp only [World.frozen?, hg, Bool.and_eq_false_iff, decide_eq_false_iff_not]
      rcases Nat.lt_or_ge (o + i) lo with h | h
      · left; omega
      · right; intro h2; exact hj ⟨h, h2⟩
    have hst : (store ((⟨g, o, none⟩ : Addr).add i) v).run P w = .ok () (w.setRow g (cur.setIfInBounds (o + i) v)) := by
      rw [hadd, run_store P w _ v _ (h1 v (by simp)), hcell]
      simp [hfro, setCell_eq_setRow w g (o + i) cur t fz v hg]
    have ih := run_storeCells_atG P g t fz rest o (i + 1) (cur.setIfInBounds (o + i) v) (w.setRow g (cur.setIfInBounds (o + i) v)) (setRow_heap w g cur _ t _ hg) (fun j h2 h3 => hfz j (by omega) (by simp; omega)) (by simp at hl ⊢; omega) (fun x hx => h1 x (by simp [hx]))
    simp only [storeCells, Sem.run_bind, hst, Result.andThen_ok, ih, setRow_setRow]
    congr 3
    have e := list_seg_step cur.toList (o + i) v rest (by simp at hl ⊢; omega)
    simpa [Array.toList_setIfInBounds, Nat.add_assoc] using e
section
variable {P : Program}
theorem buf_append (w : World) (t u ty e : TypeId) (i : TypeInfo) (ht : P.underlying t = some (.slice e)) (hu : P.underlying u = some .string) (hi : P.info? e = some i) (hz : i.zero = some (.int .u8 0))
    (hsize : i.size = 1) (hby : i.bytes = 1) (g : Nat) (l : List UInt8) (v : Value) (h : Buf e g l v w) (s : ByteArray) (hb : l.length + s.size ≤ 2 ^ 40) :
    ∃ v' w' g', (Builtin.append_ #[t, u] ty #[v, .string s]).run P w = .ok v' w' ∧ Buf e g' (l ++ s.data.toList) v' w' ∧ (g' = g ∨ g' = w.heap.size) ∧ w.grownBy w' (some g) := by
  obtain ⟨cap, cur, fz, rfl, hg, hlc, hcs, hcm, hfz, htk⟩ := h
  have hss : s.data.toList.length = s.size := by simp
  have hll : (l ++ s.data.toList).length = l.length + s.size := by rw [List.length_append, hss]
  have hvb : VB (l ++ s.data.toList) = VB l ++ strCells s := by rw [strCells_VB]; unfold VB; rw [List.map_append]
  by_cases hroom : l.length + s.size ≤ cap
  · have hf := run_firstCells_string (P := P) w 1 s
    have hst := run_storeCells_atG P g e fz (strCells s) l.length 0 cur w hg (fun j h1 h2 => by
      rw [strCells_length] at h2
      rcases hfz with h | h | h <;> omega) (by rw [strCells_length]; omega) (strCells_oneCell s)
    simp only [Nat.add_zero, strCells_length] at hst
    have hr : (Builtin.append_ #[t, u] ty #[.slice (some ⟨g, 0, none⟩) l.length cap, .string s]).run P w =
      .ok (.slice (some ⟨g, 0, none⟩) (l.length + s.size) cap) (w.setRow g (cur.toList.take l.length ++ strCells s ++ cur.toList.drop (l.length + s.size)).toArray) := by
      simp [Builtin.append_, run_underlying ht, run_underlying hu, sizeOf, typeInfo, hi, hsize, Builtin.lenOf, hroom, hf, Addr.add_lit, hst]
    refine ⟨_, _, g, hr, ⟨cap, _, fz, by rw [hll], setRow_heap w g cur _ e _ hg, by rw [hll]; exact hroom, ?_, hcm, ?_, ?_⟩, .inl rfl, ⟨rfl, rfl, rfl, by simp, fun k _ hk => setRow_other w g k _ (fun e => hk (by simp [e]))⟩⟩
    · simp only [List.size_toArray, List.length_append, List.length_take, List.length_drop, Array.length_toList, strCells_length]
      omega
    · rcases hfz with h | h | h
      · exact .inl h
      · exact .inr (.inl h)
      · exact .inr (.inr (by rw [hll]; omega))
    · rw [hll, hvb, htk]
      have : (VB l ++ strCells s).length = l.length + s.size := by rw [List.length_append, VB_length, strCells_length]
      rw [← this]
      exact List.take_left
  · have holds : ∀ j u, (VB l)[j]? = some u → w.cell? ((⟨g, 0, none⟩ : Addr).add j) = some u := fun j u hj => by
      have hadd : (⟨g, 0, none⟩ : Addr).add j = ⟨g, j, none⟩ := by unfold Addr.add; split <;> simp_all
      rw [hadd, cell_of_row w g j cur e fz hg]
      rw [← htk, List.getElem?_take] at hj
      split at hj
      · simpa using hj
      · cases hj
    have h63 : l.length + s.size ≤ maxLen := by unfold maxLen; omega
    have hr := run_append_grow_string (P := P) w t u ty e i (.int .u8 0) ht hu hi hz ⟨g, 0, none⟩ l.length cap (VB l) (by rw [hsize, VB_length]; omega) holds s (by omega) (by omega) (by rw [hby]; exact growslice_fits (by omega) (by omega))
    have hge := grownCap_ge w (l.length + s.size) cap e
    have hcm2 : grownCap w (l.length + s.size) cap e ≤ maxLen := grownCap_le_maxLen w (l.length + s.size) cap e h63
    refine ⟨_, _, w.heap.size, hr, ⟨_, _, (0, 0), by rw [hll], heap_alloc_new w.drew _, by rw [hll]; exact hge, ?_, hcm2, .inl rfl, ?_⟩, .inr rfl, ⟨rfl, rfl, rfl, by simp, fun k hk _ => heap_alloc_old w.drew _ hk⟩⟩
    · have hz1 : (Value.int IntKind.u8 0).cells.size = 1 := rfl
      simp only [Array.size_append, List.size_toArray, size_zeroCells, hz1, VB_length, strCells_length]
      omega
    · rw [hll, hvb]
      simp only [Array.toList_append, List.append_assoc]
      have : (VB l ++ strCells s).length = l.length + s.size := by rw [List.length_append, VB_length, strCells_length]
      rw [← List.append_assoc, ← this]
      exact List.take_left
/-- the buffer that '[]byte(s)' makes -/
theorem buf_new (w : World) (e : TypeId) (s : ByteArray) (hb : s.size ≤ 2 ^ 40) : Buf e w.heap.size s.data.toList (.slice (some ⟨w.heap.size, 0, none⟩) s.size (grownCap w s.size 0 e)) (bytesWorld w e s) := by
  have hss : s.data.toList.length = s.size := by simp
  have hge := grownCap_ge w s.size 0 e
  have hcm : grownCap w s.size 0 e ≤ maxLen := grownCap_le_maxLen w s.size 0 e (by unfold maxLen; omega)
  have hsz : (bytesCells w e s).size = grownCap w s.size 0 e := by unfold bytesCells; simp; omega
  refine ⟨_, _, _, by rw [hss], bytesWorld_at_new w e s, by rw [hss]; exact hge, by rw [hsz]; exact Nat.le_refl _, hcm, .inr (.inl (by rw [hsz]; exact Nat.le_refl _)), ?_⟩
  rw [hss]
  unfold bytesCells VB
  rw [Array.toList_append, List.take_append_of_le_length (by simp)]
  rw [List.take_of_length_le (by simp)]
  simp
end
end Go.Proofs.YtpacalklcdlhoaaDoor
/- The tape's disk: what it is in memory; walks of NewDisk, Cut, On, Power, Bytes, write. Condition: the sentinels that are read lie as named. -/
namespace Go.Proofs.YtpacalklcdlhoaaDoor
open Go.RowKit Go.Lib

theorem info_u8T : (Tryd.prog.info? 5).map (fun i => (i.zero, i.size, i.bytes)) = some (some (.int .u8 0), 1, 1) := by kernel_rfl
/-- all but two blocks and new ones stand -/
structure Two (b1 b2 : Nat) (w w' : World) : Prop where
  os : w'.os = w.os
  tape : w'.tape = w.tape
  output : w'.output = w.output
  size : w.heap.size ≤ w'.heap.size
  block : ∀ k, k < w.heap.size → k ≠ b1 → k ≠ b2 → w'.heap[k]? = w.heap[k]?
theorem Two.refl (b1 b2 : Nat) (w : World) : Two b1 b2 w w := ⟨rfl, rfl, rfl, Nat.le_refl _, fun _ _ _ _ => rfl⟩
theorem Two.trans {b1 b2 b3 : Nat} {u v w : World} (h : Two b1 b2 u v) (k : Two b1 b3 v w) (h3 : b3 = b2 ∨ u.heap.size ≤ b3) : Two b1 b2 u w :=
  ⟨k.os.trans h.os, k.tape.trans h.tape, k.output.trans h.output, Nat.le_trans h.size k.size, fun i hi h1 h2 => (k.block i (Nat.lt_of_lt_of_le hi h.size) h1 (by rcases h3 with rfl | h3 <;> omega)).trans (h.block i hi h1 h2)⟩
theorem Two.of_below {b1 b2 : Nat} {w w' : World} (h : Below w.heap.size w w') : Two b1 b2 w w' := ⟨h.os, h.tape, h.output, h.size, fun k hk _ _ => h.block k hk⟩
theorem Two.below {b1 b2 B : Nat} {w w' : World} (h : Two b1 b2 w w') (h1 : B ≤ b1) (h2 : B ≤ b2) (hB : B ≤ w.heap.size) : Below B w w' :=
  ⟨h.os, h.tape, h.output, h.size, fun k hk => h.block k (by omega) (by omega) (by omega)⟩
theorem Two.setCell {b1 b2 : Nat} {w w' : World} (h : Two b1 b2 w w') (o : Nat) (v : Value) : Two b1 b2 w (w'.setCell ⟨b1, o, none⟩ v) := by
  have hb := (Below.refl b1 w').setCell (p := ⟨b1, o, none⟩) (Nat.le_refl _) v
  refine ⟨hb.os.trans h.os, hb.tape.trans h.tape, hb.output.trans h.output, Nat.le_trans h.size hb.size, fun k hk h1 h2 => ?_⟩
  rw [show (w'.setCell ⟨b1, o, none⟩ v).heap[k]? = w'.heap[k]? by simp [World.setCell, Array.getElem?_modify, Ne.symm h1]]
  exact h.block k hk h1 h2
theorem Two.grown {b1 b2 : Nat} {w w' w'' : World} (h : Two b1 b2 w w') (g : w'.grownBy w'' (some b2)) : Two b1 b2 w w'' :=
  ⟨g.os.trans h.os, g.tape.trans h.tape, g.output.trans h.output, Nat.le_trans h.size g.size, fun k hk h1 h2 => (g.block k (Nat.lt_of_lt_of_le hk h.size) (by simpa using h2)).trans (h.block k hk h1 h2)⟩
theorem Two.drew {b1 b2 : Nat} {w w' : World} (h : Two b1 b2 w w') : Two b1 b2 w w'.drew := ⟨h.os, h.tape, h.output, h.size, h.block⟩
/-- the disk in block d, its buffer v in block g -/
structure DiskAt (d g : Nat) (b : Bytes) (off : Bool) (cut : Int) (v : Value) (w : World) : Prop where
  row : w.heap[d]? = some (.cells #[v, .bool off, .int .i64 cut] 94 (0, 0))
  buf : Buf 5 g b v w
  ne : g ≠ d
def DiskIs (d g : Nat) (b : Bytes) (off : Bool) (cut : Int) (w : World) : Prop := ∃ v, DiskAt d g b off cut v w
theorem DiskAt.lt {d g : Nat} {b : Bytes} {off : Bool} {cut : Int} {v : Value} {w : World} (h : DiskAt d g b off cut v w) : d < w.heap.size := (Array.getElem?_eq_some_iff.1 h.row).1
theorem DiskAt.cells {d g : Nat} {b : Bytes} {off : Bool} {cut : Int} {v : Value} {w : World} (h : DiskAt d g b off cut v w) :
    w.cell? ⟨d, 0, none⟩ = some v ∧ w.cell? ⟨d, 1, none⟩ = some (.bool off) ∧ w.cell? ⟨d, 2, none⟩ = some (.int .i64 cut) ∧ w.frozen? ⟨d, 0, none⟩ = false ∧ w.frozen? ⟨d, 1, none⟩ = false ∧ w.frozen? ⟨d, 2, none⟩ = false :=
  ⟨by rw [cell_of_row w d 0 _ _ _ h.row]; rfl, by rw [cell_of_row w d 1 _ _ _ h.row]; rfl, by rw [cell_of_row w d 2 _ _ _ h.row]; rfl, frozen_of_row w d 0 _ _ h.row, frozen_of_row w d 1 _ _ h.row, frozen_of_row w d 2 _ _ h.row⟩
theorem DiskAt.keep {d g : Nat} {b : Bytes} {off : Bool} {cut : Int} {v : Value} {w w' : World} (h : DiskAt d g b off cut v w) (h1 : w'.heap[d]? = w.heap[d]?) (h2 : w'.heap[g]? = w.heap[g]?) : DiskAt d g b off cut v w' := ⟨h1.trans h.row, h.buf.keep h2, h.ne⟩
theorem DiskAt.below {d g : Nat} {b : Bytes} {off : Bool} {cut : Int} {v : Value} {w w' : World} (h : DiskAt d g b off cut v w) (hb : Below w.heap.size w w') : DiskAt d g b off cut v w' := h.keep (hb.block d h.lt) (hb.block g h.buf.lt)
theorem DiskIs.below {d g : Nat} {b : Bytes} {off : Bool} {cut : Int} {w w' : World} (h : DiskIs d g b off cut w) (hb : Below w.heap.size w w') : DiskIs d g b off cut w' := by obtain ⟨v, h⟩ := h; exact ⟨v, h.below hb⟩
theorem set_row {w : World} {d o : Nat} {cs : Array Value} {T : TypeId} {x : Value} (h : w.heap[d]? = some (.cells cs T (0, 0))) : (w.setCell ⟨d, o, none⟩ x).heap[d]? = some (.cells (cs.setIfInBounds o x) T (0, 0)) := by
  rw [setCell_eq_setRow w d o cs T (0, 0) x h]; exact setRow_heap w d cs _ T (0, 0) h
theorem set_keep {w : World} {d o k : Nat} {x : Value} (h : k ≠ d) : (w.setCell ⟨d, o, none⟩ x).heap[k]? = w.heap[k]? := by simp [World.setCell, Array.getElem?_modify, Ne.symm h]
theorem DiskAt.set1 {d g : Nat} {b : Bytes} {off : Bool} {cut : Int} {v : Value} {w : World} (h : DiskAt d g b off cut v w) (x : Bool) : DiskAt d g b x cut v (w.setCell ⟨d, 1, none⟩ (.bool x)) :=
  ⟨set_row h.row, h.buf.keep (set_keep h.ne), h.ne⟩
theorem DiskAt.set2 {d g : Nat} {b : Bytes} {off : Bool} {cut : Int} {v : Value} {w : World} (h : DiskAt d g b off cut v w) (x : Int) : DiskAt d g b off x v (w.setCell ⟨d, 2, none⟩ (.int .i64 x)) :=
  ⟨set_row h.row, h.buf.keep (set_keep h.ne), h.ne⟩
theorem DiskAt.set0 {d g g' : Nat} {b b' : Bytes} {off : Bool} {cut : Int} {v v' : Value} {w : World} (h : w.heap[d]? = some (.cells #[v, .bool off, .int .i64 cut] 94 (0, 0))) (hb : Buf 5 g' b' v' w) (hn : g' ≠ d) : DiskAt d g' b' off cut v' (w.setCell ⟨d, 0, none⟩ v') :=
  ⟨set_row h, hb.keep (set_keep hn), hn⟩
/-! ### the laws for an append of a text's bytes -/
section
variable {P : Program}
theorem wpList_buf {w : World} {ops : Array Oper} {rest : List Oper} {o : Oper} {a : Act} {Q : Exit → Act → World → Prop} (hgd : o.guard = none) (s x : Operand) (t u : TypeId)
    (ho : o.op = .call { callee := .builtin .append, args := #[s, x], argTypes := #[t, u] }) (e : TypeId) (i : TypeInfo) (ht : P.underlying t = some (.slice e)) (hu : P.underlying u = some .string) (hi : P.info? e = some i) (hz : i.zero = some (.int .u8 0))
    (hsize : i.size = 1) (hby : i.bytes = 1) (g : Nat) (l : List UInt8) (v : Value) (hs : a.eval s = v) (h : Buf e g l v w) (sx : ByteArray) (hx : a.eval x = .string sx) (hb : l.length + sx.size ≤ 2 ^ 40)
    (hk : ∀ v' w' g', Buf e g' (l ++ sx.data.toList) v' w' → (g' = g ∨ g' = w.heap.size) → w.grownBy w' (some g) → wpList P ops Q rest (a.put o.dst v') w') : wpList P ops Q (o :: rest) a w := by
  refine wpList_plain hgd fun K hK => ?_
  obtain ⟨v', w', g', hr, h2, h3, h4⟩ := buf_append (P := P) w t u o.type e i ht hu hi hz hsize hby g l v h sx hb
  unfold Oper.wp execOp
  simp only [ho, resolve, invoke, builtin, Sem.run_bind, Sem.run_pure, Result.andThen_ok, List.map_toArray, List.map_cons, List.map_nil, hs, hx, hr]
  exact hK _ _ (hk v' w' g' h2 h3 h4)
theorem step_buf {w : World} {ops : Array Oper} {o : Oper} {a : Act} {K : Act → World → Prop} {Q : Exit → Act → World → Prop} {E : Prop} (hgd : o.guard = none) (s x : Operand) (t u : TypeId)
    (ho : o.op = .call { callee := .builtin .append, args := #[s, x], argTypes := #[t, u] }) (e : TypeId) (i : TypeInfo) (ht : P.underlying t = some (.slice e)) (hu : P.underlying u = some .string) (hi : P.info? e = some i) (hz : i.zero = some (.int .u8 0))
    (hsize : i.size = 1) (hby : i.bytes = 1) (g : Nat) (l : List UInt8) (v : Value) (hs : a.eval s = v) (h : Buf e g l v w) (sx : ByteArray) (hx : a.eval x = .string sx) (hb : l.length + sx.size ≤ 2 ^ 40)
    (hk : ∀ v' w' g', Buf e g' (l ++ sx.data.toList) v' w' → (g' = g ∨ g' = w.heap.size) → w.grownBy w' (some g) → K (a.put o.dst v') w') :
    if Region.wanted o (yielded ops a.tmps) = true then Oper.wp P o a w K Q else E := by
  have hw : Region.wanted o (yielded ops a.tmps) = true := by simp [Region.wanted, hgd]
  rw [if_pos hw]
  obtain ⟨v', w', g', hr, h2, h3, h4⟩ := buf_append (P := P) w t u o.type e i ht hu hi hz hsize hby g l v h sx hb
  unfold Oper.wp execOp
  simp only [ho, resolve, invoke, builtin, Sem.run_bind, Sem.run_pure, Result.andThen_ok, List.map_toArray, List.map_cons, List.map_nil, hs, hx, hr]
  exact hk v' w' g' h2 h3 h4
end
/-! ### the small walks -/
def NewPost (w : World) (b : Bytes) (e : Ending) (w' : World) : Prop :=
  ∃ d g, e = .returned (.tuple #[.pointer (some ⟨d, 0, none⟩), .nilIface]) ∧ DiskIs d g b false (-1) w' ∧ w.heap.size ≤ d ∧ w.heap.size ≤ g ∧ Below w.heap.size w w'
def CutPost (a : Nat → Addr) (d g : Nat) (b : Bytes) (off : Bool) (n : Int) (w : World) (e : Ending) (w' : World) : Prop :=
  ∃ r, e = .returned r ∧ ((n < 0 ∧ r = sval a 1 ∧ w = w') ∨ (0 ≤ n ∧ off = true ∧ r = sval a 11 ∧ w = w') ∨ (0 ≤ n ∧ off = false ∧ r = .nilIface ∧ DiskIs d g b false n w' ∧ Two d g w w'))
set_option maxRecDepth 100000 in
theorem NewDisk_ok (t : ByteArray) (ht : t.size ≤ 1048576) (w : World) :
    Calls Tryd.prog 17 #[.string t] w (NewPost w t.data.toList) := by
  have hcv := Lib.run_convert_string_bytes (P := Tryd.prog) w 9 55 5 t (u := .string) Tryd.underlying9 Tryd.underlying55 Tryd.underlying5
  have hb := Lib.bytesWorld_below w 5 t
  have hbuf := buf_new w 5 t (by omega)
  have hti : ¬ (1048576 : Int) < (t.size : Int) := by omega
  have hz : (Lib.bytesWorld w 5 t).heap.size = w.heap.size + 1 := by simp [Lib.bytesWorld, World.freeze, World.alloc, World.drew, -World.alloc_eq, -World.drew_eq]
  generalize grownCap w t.size 0 5 = cp at *
  have HBUF := Lib.hid hbuf
  have HB := Lib.hid hb
  have HZ := Lib.hid hz
  clear hbuf hb hz
  go_enter Tryd.func17, Tryd.ntmps17
  go_wp2
  go_ret2
  generalize Lib.bytesWorld w 5 t = W1 at *
  have hlt : w.heap.size < W1.heap.size := by have := HZ.out; omega
  refine ⟨_, w.heap.size, rfl, ⟨_, ⟨heap_alloc_new W1 _, HBUF.out.keep (heap_alloc_old W1 _ hlt), by omega⟩⟩, by omega, Nat.le_refl _, HB.out.alloc (by omega) _⟩
theorem NewDisk_big (a : Nat → Addr) (t : ByteArray) (ht : 1048576 < t.size) (w : World) (hs : SomeS [1] a w) :
    Calls Tryd.prog 17 #[.string t] w fun e w' => e = .returned (.tuple #[.pointer none, sval a 1]) ∧ Below w.heap.size w w' := by
  have hti : (1048576 : Int) < (t.size : Int) := by omega
  have s1 : w.cell? ⟨2, 0, none⟩ = some (sval a 1) := hs 1 (by simp)
  unfold sval at s1
  go_enter Tryd.func17, Tryd.ntmps17
  go_wp2
  go_quiet (fail)
  go_wp2
  go_ret2
  exact ⟨rfl, below_drewN (Below.refl _ _) _⟩
theorem TCut_any (a : Nat → Addr) (d g : Nat) (b : Bytes) (off : Bool) (cut n : Int) (w : World) (h : DiskIs d g b off cut w) (hs : SomeS [1, 11] a w) :
    Calls Tryd.prog 18 #[.pointer (some ⟨d, 0, none⟩), .int .i64 n] w (CutPost a d g b off n w) := by
  obtain ⟨v, h⟩ := h
  obtain ⟨c0, c1, c2, f0, f1, f2⟩ := h.cells
  have H := Lib.hid h
  have s1 : w.cell? ⟨2, 0, none⟩ = some (sval a 1) := hs 1 (by simp)
  have s11 : w.cell? ⟨4, 0, none⟩ = some (sval a 11) := hs 11 (by simp)
  unfold sval at s1 s11
  clear h hs
  by_cases hn : n < 0
  · go_enter Tryd.func18, Tryd.ntmps18
    go_wp2
    go_ret
    exact ⟨_, rfl, .inl ⟨hn, rfl, rfl⟩⟩
  · have hn0 : 0 ≤ n := by omega
    cases off with
    | true =>
      go_enter Tryd.func18, Tryd.ntmps18
      go_wp2
      go_ret
      exact ⟨_, rfl, .inr (.inl ⟨hn0, rfl, rfl, rfl⟩)⟩
    | false =>
      go_enter Tryd.func18, Tryd.ntmps18
      go_wp2
      go_ret
      exact ⟨_, rfl, .inr (.inr ⟨hn0, rfl, rfl, ⟨v, H.out.set2 n⟩, (Two.refl d g w).setCell 2 _⟩)⟩
theorem TOn_any (d g : Nat) (b : Bytes) (off : Bool) (cut : Int) (w : World) (h : DiskIs d g b off cut w) :
    Calls Tryd.prog 33 #[.pointer (some ⟨d, 0, none⟩)] w fun e w' => e = .returned (.tuple #[]) ∧ DiskIs d g b false (-1) w' ∧ Two d g w w' := by
  obtain ⟨v, h⟩ := h
  obtain ⟨c0, c1, c2, f0, f1, f2⟩ := h.cells
  have H := Lib.hid h
  clear h
  go_enter Tryd.func33, Tryd.ntmps33
  go_wp2
  go_end0
  exact ⟨rfl, ⟨v, (H.out.set1 false).set2 (-1)⟩, ((Two.refl d g w).setCell 1 _).setCell 2 _⟩
theorem TPower_any (d g : Nat) (b : Bytes) (off : Bool) (cut : Int) (w : World) (h : DiskIs d g b off cut w) :
    Calls Tryd.prog 22 #[.pointer (some ⟨d, 0, none⟩)] w fun e w' => e = .returned (.bool (!off)) ∧ w = w' := by
  obtain ⟨v, h⟩ := h
  obtain ⟨c0, c1, c2, f0, f1, f2⟩ := h.cells
  clear h
  go_enter Tryd.func22, Tryd.ntmps22
  go_wp2
  go_ret
  exact ⟨rfl, rfl⟩
theorem buf_text {w : World} {g : Nat} {b : Bytes} {v : Value} (h : Buf 5 g b v w) : (convert 55 9 v).run Tryd.prog w = .ok (.string (bs b)) w := by
  have hc := fun j hj => h.cell j hj
  obtain ⟨cap, cur, fz, rfl, _⟩ := h
  exact run_convert_bytes_back (P := Tryd.prog) w 55 9 5 ⟨g, 0, none⟩ cap b Tryd.underlying55 Tryd.underlying5 Tryd.underlying9 (fun j hj => by rw [Lib.add_plain, Nat.zero_add]; exact hc j hj)
theorem TBytes_any (d g : Nat) (b : Bytes) (off : Bool) (cut : Int) (w : World) (h : DiskIs d g b off cut w) :
    Calls Tryd.prog 24 #[.pointer (some ⟨d, 0, none⟩)] w fun e w' => e = .returned (.string (bs b)) ∧ w = w' := by
  obtain ⟨v, h⟩ := h
  obtain ⟨c0, c1, c2, f0, f1, f2⟩ := h.cells
  have hcv := buf_text h.buf
  clear h
  go_enter Tryd.func24, Tryd.ntmps24
  go_wp2
  go_ret
  exact ⟨rfl, rfl⟩
end Go.Proofs.YtpacalklcdlhoaaDoor
/- Walk of (*tape.Disk).write. Condition: the tables and the sentinels that are read lie as named (DIn). -/
namespace Go.Proofs.YtpacalklcdlhoaaDoor
open Go.RowKit Go.Lib

def DSt.is (d g : Nat) (s : DSt) (w : World) : Prop := DiskIs d g s.b s.off s.cut w
/-- the disk is in state s', its buffer in the same block or a new one; all else but its two blocks stands -/
def DPost (d g : Nat) (s' : DSt) (w w' : World) : Prop := ∃ g', s'.is d g' w' ∧ (g' = g ∨ w.heap.size ≤ g') ∧ Two d g w w'
/-- a disk in state s, above the tables -/
structure DIn (a : Nat → Addr) (W : World) (d g : Nat) (s : DSt) (w : World) : Prop where
  t : TapW W
  e : SomeS [1, 6, 11] a W
  b : Below W.heap.size W w
  hd : W.heap.size ≤ d
  hg : W.heap.size ≤ g
  is : s.is d g w
theorem DIn.tap {a : Nat → Addr} {W w : World} {d g : Nat} {s : DSt} (h : DIn a W d g s w) : TapW w := h.t.below h.b
theorem DIn.sen {a : Nat → Addr} {W w : World} {d g : Nat} {s : DSt} (h : DIn a W d g s w) : SomeS [1, 6, 11] a w := h.e.below h.b
theorem DIn.two {a : Nat → Addr} {W w w' : World} {d g : Nat} {s : DSt} (h : DIn a W d g s w) (k : Two d g w w') : Below W.heap.size W w' := h.b.trans (k.below h.hd h.hg h.b.size)
theorem DIn.post {a : Nat → Addr} {W w w' : World} {d g : Nat} {s s' : DSt} (h : DIn a W d g s w) (k : DPost d g s' w w') : ∃ g', DIn a W d g' s' w' ∧ (g' = g ∨ w.heap.size ≤ g') ∧ Two d g w w' := by
  obtain ⟨g', h1, h2, h3⟩ := k
  refine ⟨g', ⟨h.t, h.e, h.two h3, h.hd, ?_, h1⟩, h2, h3⟩
  have := h.hg; have := h.b.size
  rcases h2 with rfl | h2
  · assumption
  · omega
theorem DIn.below {a : Nat → Addr} {W w w' : World} {d g : Nat} {s : DSt} (h : DIn a W d g s w) (k : Below w.heap.size w w') : DIn a W d g s w' :=
  ⟨h.t, h.e, h.b.trans (k.mono h.b.size), h.hd, h.hg, DiskIs.below h.is k⟩
theorem SomeS.mono {ks ls : List Nat} {a : Nat → Addr} {w : World} (h : SomeS ks a w) (hs : ∀ k ∈ ls, k ∈ ks) : SomeS ls a w := fun k hk => h k (hs k hk)
theorem Buf.form {e : TypeId} {g : Nat} {l : List UInt8} {v : Value} {w : World} (h : Buf e g l v w) : ∃ c, v = .slice (some ⟨g, 0, none⟩) l.length c := by
  obtain ⟨cap, _, _, h1, _⟩ := h
  exact ⟨cap, h1⟩
/-- what stands behind an append that is stored -/
theorem wr_row {d g : Nat} {b : Bytes} {cut : Int} {v : Value} {w0 w6 : World} (h : DiskAt d g b false cut v w0) (hgr : w0.grownBy w6 (some g)) : w6.heap[d]? = some (.cells #[v, .bool false, .int .i64 cut] 94 (0, 0)) :=
  (hgr.block d h.lt (by simpa using Ne.symm h.ne)).trans h.row
theorem wr_fin {d g g' : Nat} {b y : Bytes} {cut : Int} {v v6 : Value} {w w0 w6 : World} (h : DiskAt d g b false cut v w0) (ht : Two d g w w0) (hb6 : Buf 5 g' (b ++ y) v6 w6) (hg6 : g' = g ∨ g' = w0.heap.size) (hgr : w0.grownBy w6 (some g)) :
    DPost d g ⟨b ++ y, false, cut⟩ w (w6.setCell ⟨d, 0, none⟩ v6) := by
  have hlt := h.lt
  have hn6 : g' ≠ d := by
    rcases hg6 with e | e <;> rw [e]
    · exact h.ne
    · omega
  exact ⟨g', ⟨v6, DiskAt.set0 (b := b) (g := g) (wr_row h hgr) hb6 hn6⟩, hg6.imp id (fun e => by rw [e]; exact ht.size), (ht.grown hgr).setCell 0 _⟩
def WrPost (a : Nat → Addr) (d g : Nat) (s : DSt) (x : Bytes) (w : World) (e : Ending) (w' : World) : Prop :=
  ∃ r, e = .returned r ∧ r = (if wrOk s x then .nilIface else sval a 11) ∧ DPost d g (wrSt s x) w w'
set_option maxRecDepth 100000 in
set_option maxHeartbeats 1000000 in
theorem TWrite_any (a : Nat → Addr) (W : World) (d g : Nat) (s : DSt) (x : ByteArray) (w : World) (hin : DIn a W d g s w) (hb : s.b.length + x.size ≤ 2 ^ 40) (hcut : s.cut ≤ 9223372036854775807) (hcut0 : -9223372036854775808 ≤ s.cut) :
    Calls Tryd.prog 57 #[.pointer (some ⟨d, 0, none⟩), .string x] w (WrPost a d g s x.data.toList w) := by
  have S11 : Hid (∀ w', Two d g w w' → w'.cell? ⟨4, 0, none⟩ = some (sval a 11)) := Lib.hid fun w' ht => (hin.e.below (hin.two ht)) 11 (by simp)
  have s11 : w.cell? ⟨4, 0, none⟩ = some (sval a 11) := hin.sen 11 (by simp)
  obtain ⟨b, off, cut⟩ := s
  obtain ⟨v, h⟩ := hin.is
  simp only at h hb hcut hcut0
  obtain ⟨i0, hi, hz0, hz1, hz2⟩ := info_parts info_u8T
  obtain ⟨c0, c1, c2, f0, f1, f2⟩ := h.cells
  have H := Lib.hid h
  have hxl : x.data.toList.length = x.size := (size_toList x).symm
  clear hin
  cases off with
  | true =>
    have HP : Hid (WrPost a d g ⟨b, true, cut⟩ x.data.toList w (.returned (sval a 11)) w) := Lib.hid ⟨_, rfl, by rw [wrOk_off]; rfl, g, ⟨v, H.out⟩, .inl rfl, Two.refl _ _ _⟩
    unfold sval at s11 HP
    clear h
    go_enter Tryd.func57, Tryd.ntmps57
    go_wp2
    go_ret
    exact HP.out
  | false =>
    obtain ⟨cp, rfl⟩ := h.buf.form
    have hne := h.ne
    have hlt := h.lt
    have hgl := h.buf.lt
    have HBUF := Lib.hid h.buf
    clear h
    by_cases hc0 : 0 ≤ cut
    · by_cases hc1 : cut < (x.size : Int)
      · have HX : Hid (x.extract 0 cut.toNat = bs (x.data.toList.take cut.toNat)) := Lib.hid (by rw [extract_bs]; simp)
        have hl2 : b.length + (x.extract 0 cut.toNat).size ≤ 2 ^ 40 := by simp; omega
        have FIN : Hid (∀ (w6 : World) (v6 : Value) (g' : Nat), Buf 5 g' (b ++ (x.extract 0 cut.toNat).data.toList) v6 w6 → (g' = g ∨ g' = w.drew.heap.size) → w.drew.grownBy w6 (some g) →
            Two d g w ((w6.setCell ⟨d, 0, none⟩ v6).setCell ⟨d, 1, none⟩ (.bool true)) ∧ WrPost a d g ⟨b, false, cut⟩ x.data.toList w (.returned (sval a 11)) ((w6.setCell ⟨d, 0, none⟩ v6).setCell ⟨d, 1, none⟩ (.bool true))) := Lib.hid (by
          intro w6 v6 g' hb6 hg6 hgr
          have hrow := (hgr.block d hlt (by simpa using Ne.symm hne)).trans H.out.row
          have hg6' : g' = g ∨ g' = w.heap.size := hg6
          have hn6 : g' ≠ d := by
            rcases hg6' with e | e <;> rw [e]
            · exact hne
            · omega
          have htwo : Two d g w ((w6.setCell ⟨d, 0, none⟩ v6).setCell ⟨d, 1, none⟩ (.bool true)) := (((Two.refl d g w).drew.grown hgr).setCell 0 _).setCell 1 _
          refine ⟨htwo, _, rfl, by rw [wrOk_cut b cut _ hc0 (by rw [hxl]; exact hc1)]; rfl, g', ⟨v6, ?_⟩, hg6'.imp id (fun h => by omega), htwo⟩
          have h1 := (DiskAt.set0 (b := b) (g := g) hrow hb6 hn6).set1 true
          rw [wrSt_cut b cut _ hc0 (by rw [hxl]; exact hc1)]
          rw [HX.out, bs_toList] at h1
          exact h1)
        have hc2 : cut ≤ (x.size : Int) := by omega
        have HLN : Hid ((b ++ (x.extract 0 cut.toNat).data.toList).length = b.length + cut.toNat) := Lib.hid (by rw [HX.out, bs_toList, List.length_append, List.length_take]; omega)
        have KEEP : Hid (∀ (w6 : World), w.drew.grownBy w6 (some g) → w6.heap[d]? = w.heap[d]?) := Lib.hid fun w6 hgr => hgr.block d hlt (by simpa using Ne.symm hne)
        go_enter Tryd.func57, Tryd.ntmps57
        go_wp2
        go_region_law (refine step_buf rfl (.tmp 28) (.tmp 34) 55 9 rfl 5 i0 Tryd.underlying55 Tryd.underlying9 hi hz0 hz1 hz2 g b _ rfl (HBUF.out.keep rfl) _ rfl hl2 ?_; intro v6 w6 g' hb6 hg6 hgr; obtain ⟨c6, hv6⟩ := hb6.form; rw [HLN.out] at hv6; subst hv6; have hrow6 := (KEEP.out w6 hgr).trans H.out.row; have d0 := cell_of_row w6 d 0 _ _ _ hrow6; have d1 := cell_of_row w6 d 1 _ _ _ hrow6; have e0 := frozen_of_row w6 d 0 _ _ hrow6; have e1 := frozen_of_row w6 d 1 _ _ hrow6)
        all_goals obtain ⟨htwo, hfin⟩ := FIN.out w6 _ g' hb6 hg6 hgr
        all_goals have c4 := S11.out _ htwo
        all_goals unfold sval at c4 hfin
        all_goals clear htwo
        all_goals have HFIN := Lib.hid hfin
        all_goals clear hfin
        all_goals go_wp2
        all_goals go_ret
        all_goals exact HFIN.out
      · have hc1n : ¬ (0 ≤ cut ∧ cut < (x.data.toList.length : Int)) := by rw [hxl]; omega
        have HD2 := Lib.hid (H.out.set2 (cut - (x.size : Int)))
        have HT2 := Lib.hid ((Two.refl d g w).setCell 2 (.int .i64 (cut - (x.size : Int))))
        have HLN : Hid ((b ++ x.data.toList).length = b.length + x.size) := Lib.hid (by rw [List.length_append, hxl])
        have FIN : Hid (∀ (w6 : World) (v6 : Value) (g' : Nat), Buf 5 g' (b ++ x.data.toList) v6 w6 → (g' = g ∨ g' = (w.setCell ⟨d, 2, none⟩ (.int .i64 (cut - (x.size : Int)))).heap.size) → (w.setCell ⟨d, 2, none⟩ (.int .i64 (cut - (x.size : Int)))).grownBy w6 (some g) →
            WrPost a d g ⟨b, false, cut⟩ x.data.toList w (.returned .nilIface) (w6.setCell ⟨d, 0, none⟩ v6)) := Lib.hid (by
          intro w6 v6 g' hb6 hg6 hgr
          refine ⟨_, rfl, by rw [wrOk_not b cut _ hc1n]; rfl, ?_⟩
          rw [wrSt_fits b cut _ hc0 (fun h => hc1n ⟨hc0, h⟩), hxl]
          exact wr_fin HD2.out HT2.out hb6 hg6 hgr)
        have hl2 : b.length + x.size ≤ 2 ^ 40 := hb
        clear hc1n s11 hxl
        go_enter Tryd.func57, Tryd.ntmps57
        go_wp2_with (first | (at_builtin; refine wpList_buf rfl (.tmp 60) (.tmp 61) 55 9 rfl 5 i0 Tryd.underlying55 Tryd.underlying9 hi hz0 hz1 hz2 g b _ rfl (HD2.out.buf) _ rfl hl2 ?_; intro v6 w6 g' hb6 hg6 hgr; obtain ⟨c6, hv6⟩ := hb6.form; rw [HLN.out] at hv6; subst hv6; have hrow6 := wr_row HD2.out hgr; have d0 := cell_of_row w6 d 0 _ _ _ hrow6; have e0 := frozen_of_row w6 d 0 _ _ hrow6) | fail)
        go_ret
        exact FIN.out _ _ _ hb6 hg6 hgr
    · have hc1n : ¬ (0 ≤ cut ∧ cut < (x.data.toList.length : Int)) := fun h => hc0 h.1
      have HLN : Hid ((b ++ x.data.toList).length = b.length + x.size) := Lib.hid (by rw [List.length_append, hxl])
      have FIN : Hid (∀ (w6 : World) (v6 : Value) (g' : Nat), Buf 5 g' (b ++ x.data.toList) v6 w6 → (g' = g ∨ g' = w.heap.size) → w.grownBy w6 (some g) →
          WrPost a d g ⟨b, false, cut⟩ x.data.toList w (.returned .nilIface) (w6.setCell ⟨d, 0, none⟩ v6)) := Lib.hid (by
        intro w6 v6 g' hb6 hg6 hgr
        refine ⟨_, rfl, by rw [wrOk_not b cut _ hc1n]; rfl, ?_⟩
        rw [wrSt_free b cut _ hc0]
        exact wr_fin H.out (Two.refl d g w) hb6 hg6 hgr)
      have hl2 : b.length + x.size ≤ 2 ^ 40 := hb
      clear hc1n s11 hxl
      go_enter Tryd.func57, Tryd.ntmps57
      go_wp2_with (first | (at_builtin; refine wpList_buf rfl (.tmp 60) (.tmp 61) 55 9 rfl 5 i0 Tryd.underlying55 Tryd.underlying9 hi hz0 hz1 hz2 g b _ rfl (H.out.buf) _ rfl hl2 ?_; intro v6 w6 g' hb6 hg6 hgr; obtain ⟨c6, hv6⟩ := hb6.form; rw [HLN.out] at hv6; subst hv6; have hrow6 := wr_row H.out hgr; have d0 := cell_of_row w6 d 0 _ _ _ hrow6; have e0 := frozen_of_row w6 d 0 _ _ hrow6) | fail)
      go_ret
      exact FIN.out _ _ _ hb6 hg6 hgr
end Go.Proofs.YtpacalklcdlhoaaDoor
/- Walk of tape.Append. Condition: DIn. -/
namespace Go.Proofs.YtpacalklcdlhoaaDoor
open Go.RowKit Go.Lib

def errOf (a : Nat → Addr) (k : Nat) : Value := if k = 0 then .nilIface else sval a k
def ApPost (a : Nat → Addr) (d g : Nat) (s : DSt) (x : Bytes) (w : World) (e : Ending) (w' : World) : Prop :=
  ∃ r, e = .returned r ∧ r = errOf a (apNo s x) ∧ DPost d g (apSt s x) w w'
set_option maxRecDepth 100000 in
set_option maxHeartbeats 1000000 in
theorem TAppend_any (a : Nat → Addr) (W : World) (d g : Nat) (s : DSt) (x : ByteArray) (w : World) (hin : DIn a W d g s w) (hx : x.size ≤ 2 ^ 30) (hb : s.b.length ≤ 2 ^ 30) (hcut : s.cut ≤ 9223372036854775807) (hcut0 : -9223372036854775808 ≤ s.cut) :
    Calls Tryd.prog 19 #[.pointer (some ⟨d, 0, none⟩), .string x] w (ApPost a d g s x.data.toList w) := by
  have s1 : w.cell? ⟨2, 0, none⟩ = some (sval a 1) := hin.sen 1 (by simp)
  have s6 : w.cell? ⟨5, 0, none⟩ = some (sval a 6) := hin.sen 6 (by simp)
  have HIN := Lib.hid hin
  have hxl := size_toList x
  clear hin
  by_cases h1 : 40000 < x.size
  · have h1i : (40000 : Int) < (x.size : Int) := by omega
    have HP : Hid (ApPost a d g s x.data.toList w (.returned (sval a 1)) w) := Lib.hid ⟨_, rfl, by unfold apNo; rw [if_pos (by omega)]; rfl, g, by unfold apSt; rw [if_pos (by omega)]; exact HIN.out.is, .inl rfl, Two.refl _ _ _⟩
    unfold sval at s1 HP
    clear hxl
    go_enter Tryd.func19, Tryd.ntmps19
    go_wp2
    go_ret
    exact HP.out
  · have h1i : ¬ (40000 : Int) < (x.size : Int) := by omega
    obtain ⟨b, off, cut⟩ := s
    obtain ⟨v, h⟩ := HIN.out.is
    obtain ⟨cp, rfl⟩ := h.buf.form
    simp only at h hb hcut hcut0
    have H := Lib.hid h
    have hx40 : x.size ≤ 2 ^ 40 := by omega
    obtain ⟨R, hR⟩ : ∃ R, R = bs (recOf x.data.toList) := ⟨_, rfl⟩
    have REC : Hid (∀ w', Below w.heap.size w w' → Calls Tryd.prog 56 #[.string x] w' fun e w2 => e = .returned (.string R) ∧ Below w.heap.size w' w2) := Lib.hid fun w' hb => (record_any x hx40 w' (HIN.out.tap.below hb)).mono fun e w2 ⟨h1, h2⟩ => ⟨by rw [h1, hR], h2.mono hb.size⟩
    have h1n : ¬ 40000 < x.data.toList.length := by omega
    have HRS : Hid (R.size = (recOf x.data.toList).length) := Lib.hid (by rw [hR, bs_size])
    have HRL : Hid (R.data.toList = recOf x.data.toList) := Lib.hid (by rw [hR, bs_toList])
    have hR40 : R.size ≤ 40012 := by
      have := recOf_length x.data.toList (by omega)
      rw [HRS.out]; omega
    clear hR
    have HNO := Lib.hid h1n
    clear h hxl h1n
    go_enter Tryd.func19, Tryd.ntmps19
    go_wp2
    have hwr : IntKind.i64.wrap ((1048576 : Int) - (b.length : Int)) = (1048576 : Int) - (b.length : Int) := IntWalk.i64_in _ (by omega)
    have hS0 : Below w.heap.size w w.drew := (Below.refl _ _).drew
    refine region_S (fun w' => Below w.heap.size w w') 10 (by kernel_rfl) (by kernel_rfl) ?_
    refine take_S 0 rfl (by kernel_rfl) (by kernel_rfl) hS0 (fun w' hS => by go_simp; rfl) ?_
    try simp only [Act.put, List.getElem_toArray, List.getElem_cons_succ, List.getElem_cons_zero, List.setIfInBounds_toArray, List.set_cons_zero, List.set_cons_succ]
    refine take_S 3 rfl (by kernel_rfl) (by kernel_rfl) hS0 (fun w' hS => by go_simp; rfl) ?_
    try simp only [Act.put, List.getElem_toArray, List.getElem_cons_succ, List.getElem_cons_zero, List.setIfInBounds_toArray, List.set_cons_zero, List.set_cons_succ]
    refine take_S 4 rfl (by kernel_rfl) (by kernel_rfl) hS0 (fun w' hS => by go_simp; rfl) ?_
    try simp only [Act.put, List.getElem_toArray, List.getElem_cons_succ, List.getElem_cons_zero, List.setIfInBounds_toArray, List.set_cons_zero, List.set_cons_succ]
    refine take_S 5 rfl (by kernel_rfl) (by kernel_rfl) hS0 (fun w' hS => by go_simp; rfl) ?_
    try simp only [Act.put, List.getElem_toArray, List.getElem_cons_succ, List.getElem_cons_zero, List.setIfInBounds_toArray, List.set_cons_zero, List.set_cons_succ]
    refine take_S 6 rfl (by kernel_rfl) (by kernel_rfl) hS0 (fun w' hS => by have c0 := (H.out.below hS).cells.1; go_simp; rfl) ?_
    try simp only [Act.put, List.getElem_toArray, List.getElem_cons_succ, List.getElem_cons_zero, List.setIfInBounds_toArray, List.set_cons_zero, List.set_cons_succ]
    refine take_S 7 rfl (by kernel_rfl) (by kernel_rfl) hS0 (fun w' hS => by go_simp; rfl) ?_
    try simp only [Act.put, List.getElem_toArray, List.getElem_cons_succ, List.getElem_cons_zero, List.setIfInBounds_toArray, List.set_cons_zero, List.set_cons_succ]
    refine take_S 8 rfl (by kernel_rfl) (by kernel_rfl) hS0 (fun w' hS => by go_simp; rfl) ?_
    try simp only [Act.put, List.getElem_toArray, List.getElem_cons_succ, List.getElem_cons_zero, List.setIfInBounds_toArray, List.set_cons_zero, List.set_cons_succ]
    refine carry_S 1 rfl (by kernel_rfl) (by decide) (by kernel_rfl) (fun K hK => ?_)
    go_simp
    refine (REC.out _ hS0).mono ?_
    rintro e w1 ⟨rfl, hB1⟩
    have hS1 : Below w.heap.size w w1 := hS0.trans hB1
    refine hK _ _ hS1 ?_
    clear hK K
    try simp only [Act.put, List.getElem_toArray, List.getElem_cons_succ, List.getElem_cons_zero, List.setIfInBounds_toArray, List.set_cons_zero, List.set_cons_succ]
    refine take_S 2 rfl (by kernel_rfl) (by kernel_rfl) hS1 (fun w' hS => by go_simp; rfl) ?_
    try simp only [Act.put, List.getElem_toArray, List.getElem_cons_succ, List.getElem_cons_zero, List.setIfInBounds_toArray, List.set_cons_zero, List.set_cons_succ]
    by_cases h2 : 1048576 < R.size + b.length
    · have h2i : (1048576 : Int) - (b.length : Int) < (R.size : Int) := by omega
      refine take_S (v := .bool true) 9 rfl (by kernel_rfl) (by kernel_rfl) hS1 (fun w' hS => by go_simp) ?_
      try simp only [Act.put, List.getElem_toArray, List.getElem_cons_succ, List.getElem_cons_zero, List.setIfInBounds_toArray, List.set_cons_zero, List.set_cons_succ]
      refine forced_S (by kernel_rfl) ?_
      simp only [List.drop_succ_cons, List.drop_zero]
      have s6' : w1.cell? ⟨5, 0, none⟩ = some (sval a 6) := (HIN.out.below hS1).sen 6 (by simp)
      have HP : Hid (ApPost a d g ⟨b, off, cut⟩ x.data.toList w (.returned (sval a 6)) w1) := Lib.hid ⟨_, rfl, by unfold apNo; rw [if_neg HNO.out, if_pos (by rw [← HRS.out]; exact h2)]; rfl, g, by unfold apSt; rw [if_neg HNO.out, if_pos (by rw [← HRS.out]; exact h2)]; exact (HIN.out.below hS1).is, .inl rfl, Two.of_below hS1⟩
      unfold sval at s6' HP
      clear s6 s1
      go_wp2
      go_ret
      exact HP.out
    · have h2i : ¬ (1048576 : Int) - (b.length : Int) < (R.size : Int) := by omega
      refine take_S (v := .bool false) 9 rfl (by kernel_rfl) (by kernel_rfl) hS1 (fun w' hS => by go_simp) ?_
      try simp only [Act.put, List.getElem_toArray, List.getElem_cons_succ, List.getElem_cons_zero, List.setIfInBounds_toArray, List.set_cons_zero, List.set_cons_succ]
      refine forced_S (by kernel_rfl) ?_
      simp only [List.drop_succ_cons, List.drop_zero]
      have HS1 := Lib.hid hS1
      clear s6 s1 hS0 hS1 hB1
      go_wp2_with fail
      refine (REC.out w1 HS1.out).mono ?_
      rintro e w2 ⟨rfl, hB2⟩
      have hI2 := HIN.out.below (HS1.out.trans hB2)
      have HS2 := Lib.hid (HS1.out.trans hB2)
      go_wp2_with fail
      refine (TWrite_any a W d g ⟨b, off, cut⟩ R w2 hI2 (by simp only; omega) hcut hcut0).mono ?_
      rintro e w3 ⟨r, rfl, hr, hp⟩
      have HP : Hid (ApPost a d g ⟨b, off, cut⟩ x.data.toList w (.returned r) w3) := Lib.hid (by
        rw [HRL.out] at hr hp
        have hn : ¬ 1048576 < (recOf x.data.toList).length + b.length := by rw [← HRS.out]; exact h2
        refine ⟨r, rfl, ?_, ?_⟩
        · rw [hr]; unfold apNo errOf; rw [if_neg HNO.out, if_neg hn]
          cases wrOk ⟨b, off, cut⟩ (recOf x.data.toList) <;> rfl
        · unfold apSt; rw [if_neg HNO.out, if_neg hn]
          obtain ⟨g', p1, p2, p3⟩ := hp
          exact ⟨g', p1, p2.imp id (fun h => Nat.le_trans HS2.out.size h), (Two.of_below HS2.out).trans p3 (.inl rfl)⟩)
      clear hr hp hI2
      go_wp2
      go_ret
      exact HP.out
end Go.Proofs.YtpacalklcdlhoaaDoor
/- Walk of tape.Recover. Condition: DIn. -/
namespace Go.Proofs.YtpacalklcdlhoaaDoor
open Go.RowKit Go.Lib

def RcPost (d g : Nat) (s : DSt) (w : World) (e : Ending) (w' : World) : Prop :=
  ∃ v, e = .returned (.tuple #[v, .nilIface]) ∧ w'.ownsRow w.heap.size 9 1 v (readAll s.b).length ((readAll s.b).map VT) ∧ (∀ b, v.ownBlock = some b → w.heap.size ≤ b) ∧ DPost d g (rcSt s) w w'
theorem readAll_take (b : Bytes) : b.take (recsOf (readAll b)).length = recsOf (readAll b) ∧ (recsOf (readAll b)).length ≤ b.length := by
  obtain ⟨t, h, _⟩ := readOf_front b.length b (Nat.le_refl _)
  have h' : b = recsOf (readAll b) ++ t := h
  refine ⟨?_, ?_⟩
  · have : b.take (recsOf (readAll b)).length = (recsOf (readAll b) ++ t).take (recsOf (readAll b)).length := by rw [← h']
    rw [this, List.take_left]
  · have := congrArg List.length h'
    rw [List.length_append] at this; omega
theorem own_set {w : World} {base n size b o : Nat} {e : TypeId} {v x : Value} {xs : List Value} (h : w.ownsRow base e size v n xs) (hb : b < base) : (w.setCell ⟨b, o, none⟩ x).ownsRow base e size v n xs := by
  refine ⟨h.1, ?_⟩
  rcases h.2 with h | ⟨g, cap, cur, hv, hg, hh, h3⟩
  · exact .inl h
  · exact .inr ⟨g, cap, cur, hv, hg, (set_keep (by omega)).trans hh, h3⟩
theorem own_two {w w' : World} {base n size d g : Nat} {e : TypeId} {v : Value} {xs : List Value} (h : w.ownsRow base e size v n xs) (ho : ∀ b, v.ownBlock = some b → b ≠ d ∧ b ≠ g) (k : Two d g w w') : w'.ownsRow base e size v n xs := by
  refine ⟨h.1, ?_⟩
  rcases h.2 with h | ⟨b, cap, cur, hv, hg, hh, h3⟩
  · exact .inl h
  · have hn := ho b (by rw [hv]; rfl)
    exact .inr ⟨b, cap, cur, hv, hg, (k.block b (Array.getElem?_eq_some_iff.1 hh).1 hn.1 hn.2).trans hh, h3⟩
theorem own_base {w : World} {base base' n size : Nat} {e : TypeId} {v : Value} {xs : List Value} (h : w.ownsRow base e size v n xs) (hb : base' ≤ base) : w.ownsRow base' e size v n xs := by
  refine ⟨h.1, ?_⟩
  rcases h.2 with h | ⟨g, cap, cur, hv, hg, h3⟩
  · exact .inl h
  · exact .inr ⟨g, cap, cur, hv, Nat.le_trans hb hg, h3⟩
set_option maxRecDepth 100000 in
set_option maxHeartbeats 1000000 in
theorem TRecover_any (a : Nat → Addr) (W : World) (d g : Nat) (s : DSt) (w : World) (hin : DIn a W d g s w) (hb : s.b.length ≤ 2 ^ 30) :
    Calls Tryd.prog 20 #[.pointer (some ⟨d, 0, none⟩)] w (RcPost d g s w) := by
  have HIN := Lib.hid hin
  obtain ⟨b, off, cut⟩ := s
  obtain ⟨v0, h0⟩ := hin.is
  simp only at hb h0
  have hdl := h0.lt
  have hsz : (bs b).size ≤ 2 ^ 30 := by rw [bs_size]; exact hb
  have HSZ := Lib.hid hsz
  clear hsz hin
  go_enter Tryd.func20, Tryd.ntmps20
  go_wp2_with fail
  refine (TOn_any d g b off cut w ⟨v0, h0⟩).mono ?_
  rintro e w1 ⟨rfl, ⟨v, h1⟩, ht1⟩
  obtain ⟨cp, rfl⟩ := h1.buf.form
  have hcv := buf_text h1.buf
  obtain ⟨c0, c1, c2, f0, f1, f2⟩ := h1.cells
  have HT1 := Lib.hid (HIN.out.t.below (HIN.out.two ht1))
  have H1 := Lib.hid h1
  have hT1 := Lib.hid ht1
  have hdl1 := h1.lt
  clear h0 h1 ht1
  go_wp2_with fail
  refine (Read_any (bs b) HSZ.out w1 HT1.out).mono ?_
  rintro e w2 ⟨vr, rfl, hrow, hB2⟩
  rw [bs_toList] at hrow
  have hlen : ((recsOf (readAll (bs b).data.toList)).length : Nat) = (recsOf (readAll b)).length := by rw [bs_toList]
  rw [hlen]
  obtain ⟨htk, hle⟩ := readAll_take b
  have H2 := Lib.hid (H1.out.below hB2)
  obtain ⟨c0, c1, c2, f0, f1, f2⟩ := H2.out.cells
  have HTK := Lib.hid htk
  have HR := Lib.hid hrow
  have HB2 := Lib.hid hB2
  have HLE := Lib.hid hle
  have hcp : b.length ≤ cp := by
    obtain ⟨cap, cur, fz, h1, _, h3, _⟩ := H2.out.buf
    injection h1 with _ _ h1
    omega
  generalize hq : (recsOf (readAll b)).length = q at *
  have hq1 : (q : Int) ≤ (cp : Int) := by omega
  have hq0 : (0 : Int) ≤ (q : Int) := by omega
  clear hlen htk hrow hB2 hle
  go_wp2
  go_ret2
  have hbuf := H2.out.buf.take q HLE.out
  rw [HTK.out] at hbuf
  exact ⟨vr, rfl, own_base (own_set HR.out hdl1) hT1.out.size, fun b hb => Nat.le_trans hT1.out.size (own_ge HR.out hb), g, ⟨_, DiskAt.set0 (b := b) (g := g) H2.out.row hbuf H2.out.ne⟩, .inl rfl, (hT1.out.trans (Two.of_below HB2.out) (.inl rfl)).setCell 0 _⟩
end Go.Proofs.YtpacalklcdlhoaaDoor
/- Walk of taped: a closed fact on tapes. Condition: the tables and the sentinels that are read lie as named. -/
namespace Go.Proofs.YtpacalklcdlhoaaDoor
open Go.RowKit Go.Lib

def ab : ByteArray := ⟨#[97, 32, 98]⟩
theorem ab_list : ab.data.toList = [97, 32, 98] := rfl
theorem ab_all : readAll (recOf [97, 32, 98]) = [[97, 32, 98]] := by
  have := readAll_snoc (D := []) (fun x h => by cases h) [97, 32, 98] (by decide)
  simpa [recsOf] using this
theorem ab_recs : recsOf [[97, 32, 98]] = [51, 58, 97, 32, 98, 10, 46] := by decide +kernel
theorem ab_rec : recOf [97, 32, 98] = [51, 58, 97, 32, 98, 10, 46] := by decide +kernel
set_option maxRecDepth 100000 in
set_option maxHeartbeats 1000000 in
theorem taped_any (a : Nat → Addr) (w : World) (hT : TapW w) (hS : SomeS [1, 6, 11] a w) :
    Calls Tryd.prog 16 #[] w fun e w' => e = .returned (.bool true) ∧ Below w.heap.size w w' := by
  have HT := Lib.hid hT
  have HS := Lib.hid hS
  clear hT hS
  go_enter Tryd.func16, Tryd.ntmps16
  go_wp2_with fail
  refine (NewDisk_ok ⟨#[]⟩ (by decide) w).mono ?_
  rintro e w1 ⟨d, g, rfl, hdk, hd, hg, hb1⟩
  have HI1 : Hid (DIn a w d g ⟨[], false, -1⟩ w1) := Lib.hid ⟨HT.out, HS.out, hb1, hd, hg, hdk⟩
  clear hdk hd hg hb1
  go_wp2_with fail
  refine (TAppend_any a w d g ⟨[], false, -1⟩ ⟨#[97, 32, 98]⟩ w1 HI1.out (by decide) (by decide) (by decide) (by decide)).mono ?_
  rintro e w2 ⟨r, rfl, hr, hp⟩
  have hno : apNo ⟨[], false, -1⟩ [97, 32, 98] = 0 := apNo_on [] _ (by decide) (by rw [ab_rec]; decide)
  have hr' : r = .nilIface := by rw [hr]; exact if_pos hno
  subst hr'
  have hst : apSt ⟨[], false, -1⟩ [97, 32, 98] = ⟨recOf [97, 32, 98], false, -1⟩ := apSt_on [] _ (by decide) (by rw [ab_rec]; decide)
  have hp' : DPost d g ⟨recOf [97, 32, 98], false, -1⟩ w1 w2 := hst ▸ hp
  obtain ⟨g2, hin2, _, _⟩ := HI1.out.post hp'
  have HI2 := Lib.hid hin2
  clear hin2 hp hp' hr hno hst
  go_wp2_with fail
  refine (TRecover_any a w d g2 _ w2 HI2.out (by rw [ab_rec]; decide)).mono ?_
  rintro e w3 ⟨v, rfl, hrow, _, hp3⟩
  obtain ⟨g3, hin3, _, ht3⟩ := HI2.out.post hp3
  have hrow' : w3.ownsRow w2.heap.size 9 1 v 1 [VT [97, 32, 98]] := by
    have h := hrow
    simp only [ab_all] at h
    exact h
  have HI3 := Lib.hid hin3
  have HR3 := Lib.hid hrow'
  clear hin3 hrow hrow' hp3 ht3
  go_wp2_with fail
  have hb4 : Below w3.heap.size w3 (w3.alloc (.cells #[.string ⟨#[97, 32, 98]⟩] 9)) := (Below.refl _ _).alloc (Nat.le_refl _) _
  have hd4 : DiskIs d g3 [51, 58, 97, 32, 98, 10, 46] false (-1) (w3.alloc (.cells #[.string ⟨#[97, 32, 98]⟩] 9)) := by
    have h := HI3.out.is
    unfold DSt.is rcSt at h
    simp only [ab_all, ab_recs] at h
    exact h.below hb4
  have hb5 : Below w.heap.size w (w3.alloc (.cells #[.string ⟨#[97, 32, 98]⟩] 9)) := HI3.out.b.trans (hb4.mono HI3.out.b.size)
  have hlit : Rd (w3.alloc (.cells #[.string ⟨#[97, 32, 98]⟩] 9)) (w3.heap.size + 1) (.slice (some ⟨w3.heap.size, 0, none⟩) 1 1) ([[97, 32, 98]].map VT) := ⟨_, _, rfl, Nat.le_refl _, fun _ => ⟨w3.heap.size, 0, rfl, Nat.lt_succ_self _, fun k u hu => by
    have := cell_one_new w3 (.string ⟨#[97, 32, 98]⟩) 9 k u hu
    rwa [add_eq'] at this⟩⟩
  have hrd : Rd (w3.alloc (.cells #[.string ⟨#[97, 32, 98]⟩] 9)) (w3.heap.size + 1) v ([[97, 32, 98]].map VT) := ((Rd.own HR3.out).below hb4).more (Nat.le_succ _)
  generalize w3.alloc (.cells #[.string ⟨#[97, 32, 98]⟩] 9) = w4 at *
  refine (SameTexts_any v _ _ _ _ w4 hrd hlit (by decide) (by decide)).mono ?_
  rintro e w5 ⟨rfl, q, rfl⟩
  have HD5 : Hid (DiskIs d g3 [51, 58, 97, 32, 98, 10, 46] false (-1) (w4.drewN q)) := Lib.hid (hd4.below (below_drewN (Below.refl _ _) _))
  have HB5 := Lib.hid (below_drewN hb5 q)
  have hdt : decide (([[97, 32, 98]] : List Bytes) = [[97, 32, 98]]) = true := by decide
  rw [hdt]
  clear hdt hd4 hb5 hlit hrd hb4
  have hbl : ((bs [51, 58, 97, 32, 98, 10, 46]).toList == [51, 58, 97, 32, 98, 10, 46]) = true := by rw [bs_list]; rfl
  generalize hB : bs [51, 58, 97, 32, 98, 10, 46] = B at *
  go_wp2_with fail
  refine (TBytes_any d g3 _ false (-1) _ HD5.out).mono ?_
  rintro e w6 ⟨rfl, rfl⟩
  rw [hB]
  go_wp2
  go_ret
  exact ⟨rfl, HB5.out⟩
end Go.Proofs.YtpacalklcdlhoaaDoor

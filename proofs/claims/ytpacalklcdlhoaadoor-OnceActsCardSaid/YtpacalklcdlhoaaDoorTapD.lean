/- The tape's disk: what it is in memory; walks of NewDisk, Cut, On, Power, Bytes, write. Condition: the sentinels that are read lie as named. -/
import Derived.Test.YtpacalklcdlhoaaDoorTapB
import Derived.Test.YtpacalklcdlhoaaDoorEv
import Derived.Test.YtpacalklcdlhoaaDoorPlainA
import Derived.Deep.QuietTactic
import Derived.BigQuiet
import Derived.Lib.SlFresh
import Derived.Lib.ItoaMem
import Derived.Test.YtpacalklcdlhoaaDoorRead
namespace Go.Proofs.YtpacalklcdlhoaaDoor
open Go.RowKit Go.Lib

theorem info_u8T : (Tryd.prog.info? 5).map (fun i => (i.zero, i.size, i.bytes)) = some (some (.int .u8 0), 1, 1) := by kernel_rfl
/-- all but two blocks and new ones stand -/
structure Two (b1 b2 : Nat) (w w' : World) : Prop where
  os : w'.os = w.os
  tape : w'.tape = w.tape
  output : w'.output = w.output
  size : w.heap.size ≤ w'.heap.size
  block : ∀ k, k < w.heap.size → k ≠ b1 → k ≠ b2 → w'.heap[k]? = w.heap[k]?
theorem Two.refl (b1 b2 : Nat) (w : World) : Two b1 b2 w w := ⟨rfl, rfl, rfl, Nat.le_refl _, fun _ _ _ _ => rfl⟩
theorem Two.trans {b1 b2 b3 : Nat} {u v w : World} (h : Two b1 b2 u v) (k : Two b1 b3 v w) (h3 : b3 = b2 ∨ u.heap.size ≤ b3) : Two b1 b2 u w :=
  ⟨k.os.trans h.os, k.tape.trans h.tape, k.output.trans h.output, Nat.le_trans h.size k.size, fun i hi h1 h2 => (k.block i (Nat.lt_of_lt_of_le hi h.size) h1 (by rcases h3 with rfl | h3 <;> omega)).trans (h.block i hi h1 h2)⟩
theorem Two.of_below {b1 b2 : Nat} {w w' : World} (h : Below w.heap.size w w') : Two b1 b2 w w' := ⟨h.os, h.tape, h.output, h.size, fun k hk _ _ => h.block k hk⟩
theorem Two.below {b1 b2 B : Nat} {w w' : World} (h : Two b1 b2 w w') (h1 : B ≤ b1) (h2 : B ≤ b2) (hB : B ≤ w.heap.size) : Below B w w' :=
  ⟨h.os, h.tape, h.output, h.size, fun k hk => h.block k (by omega) (by omega) (by omega)⟩
theorem Two.setCell {b1 b2 : Nat} {w w' : World} (h : Two b1 b2 w w') (o : Nat) (v : Value) : Two b1 b2 w (w'.setCell ⟨b1, o, none⟩ v) := by
  have hb := (Below.refl b1 w').setCell (p := ⟨b1, o, none⟩) (Nat.le_refl _) v
  refine ⟨hb.os.trans h.os, hb.tape.trans h.tape, hb.output.trans h.output, Nat.le_trans h.size hb.size, fun k hk h1 h2 => ?_⟩
  rw [show (w'.setCell ⟨b1, o, none⟩ v).heap[k]? = w'.heap[k]? by simp [World.setCell, Array.getElem?_modify, Ne.symm h1]]
  exact h.block k hk h1 h2
theorem Two.grown {b1 b2 : Nat} {w w' w'' : World} (h : Two b1 b2 w w') (g : w'.grownBy w'' (some b2)) : Two b1 b2 w w'' :=
  ⟨g.os.trans h.os, g.tape.trans h.tape, g.output.trans h.output, Nat.le_trans h.size g.size, fun k hk h1 h2 => (g.block k (Nat.lt_of_lt_of_le hk h.size) (by simpa using h2)).trans (h.block k hk h1 h2)⟩
theorem Two.drew {b1 b2 : Nat} {w w' : World} (h : Two b1 b2 w w') : Two b1 b2 w w'.drew := ⟨h.os, h.tape, h.output, h.size, h.block⟩
/-- the disk in block d, its buffer v in block g -/
structure DiskAt (d g : Nat) (b : Bytes) (off : Bool) (cut : Int) (v : Value) (w : World) : Prop where
  row : w.heap[d]? = some (.cells #[v, .bool off, .int .i64 cut] 94 (0, 0))
  buf : Buf 5 g b v w
  ne : g ≠ d
def DiskIs (d g : Nat) (b : Bytes) (off : Bool) (cut : Int) (w : World) : Prop := ∃ v, DiskAt d g b off cut v w
theorem DiskAt.lt {d g : Nat} {b : Bytes} {off : Bool} {cut : Int} {v : Value} {w : World} (h : DiskAt d g b off cut v w) : d < w.heap.size := (Array.getElem?_eq_some_iff.1 h.row).1
theorem DiskAt.cells {d g : Nat} {b : Bytes} {off : Bool} {cut : Int} {v : Value} {w : World} (h : DiskAt d g b off cut v w) :
    w.cell? ⟨d, 0, none⟩ = some v ∧ w.cell? ⟨d, 1, none⟩ = some (.bool off) ∧ w.cell? ⟨d, 2, none⟩ = some (.int .i64 cut) ∧ w.frozen? ⟨d, 0, none⟩ = false ∧ w.frozen? ⟨d, 1, none⟩ = false ∧ w.frozen? ⟨d, 2, none⟩ = false :=
  ⟨by rw [cell_of_row w d 0 _ _ _ h.row]; rfl, by rw [cell_of_row w d 1 _ _ _ h.row]; rfl, by rw [cell_of_row w d 2 _ _ _ h.row]; rfl, frozen_of_row w d 0 _ _ h.row, frozen_of_row w d 1 _ _ h.row, frozen_of_row w d 2 _ _ h.row⟩
theorem DiskAt.keep {d g : Nat} {b : Bytes} {off : Bool} {cut : Int} {v : Value} {w w' : World} (h : DiskAt d g b off cut v w) (h1 : w'.heap[d]? = w.heap[d]?) (h2 : w'.heap[g]? = w.heap[g]?) : DiskAt d g b off cut v w' := ⟨h1.trans h.row, h.buf.keep h2, h.ne⟩
theorem DiskAt.below {d g : Nat} {b : Bytes} {off : Bool} {cut : Int} {v : Value} {w w' : World} (h : DiskAt d g b off cut v w) (hb : Below w.heap.size w w') : DiskAt d g b off cut v w' := h.keep (hb.block d h.lt) (hb.block g h.buf.lt)
theorem DiskIs.below {d g : Nat} {b : Bytes} {off : Bool} {cut : Int} {w w' : World} (h : DiskIs d g b off cut w) (hb : Below w.heap.size w w') : DiskIs d g b off cut w' := by obtain ⟨v, h⟩ := h; exact ⟨v, h.below hb⟩
theorem set_row {w : World} {d o : Nat} {cs : Array Value} {T : TypeId} {x : Value} (h : w.heap[d]? = some (.cells cs T (0, 0))) : (w.setCell ⟨d, o, none⟩ x).heap[d]? = some (.cells (cs.setIfInBounds o x) T (0, 0)) := by
  rw [setCell_eq_setRow w d o cs T (0, 0) x h]; exact setRow_heap w d cs _ T (0, 0) h
theorem set_keep {w : World} {d o k : Nat} {x : Value} (h : k ≠ d) : (w.setCell ⟨d, o, none⟩ x).heap[k]? = w.heap[k]? := by simp [World.setCell, Array.getElem?_modify, Ne.symm h]
theorem DiskAt.set1 {d g : Nat} {b : Bytes} {off : Bool} {cut : Int} {v : Value} {w : World} (h : DiskAt d g b off cut v w) (x : Bool) : DiskAt d g b x cut v (w.setCell ⟨d, 1, none⟩ (.bool x)) :=
  ⟨set_row h.row, h.buf.keep (set_keep h.ne), h.ne⟩
theorem DiskAt.set2 {d g : Nat} {b : Bytes} {off : Bool} {cut : Int} {v : Value} {w : World} (h : DiskAt d g b off cut v w) (x : Int) : DiskAt d g b off x v (w.setCell ⟨d, 2, none⟩ (.int .i64 x)) :=
  ⟨set_row h.row, h.buf.keep (set_keep h.ne), h.ne⟩
theorem DiskAt.set0 {d g g' : Nat} {b b' : Bytes} {off : Bool} {cut : Int} {v v' : Value} {w : World} (h : w.heap[d]? = some (.cells #[v, .bool off, .int .i64 cut] 94 (0, 0))) (hb : Buf 5 g' b' v' w) (hn : g' ≠ d) : DiskAt d g' b' off cut v' (w.setCell ⟨d, 0, none⟩ v') :=
  ⟨set_row h, hb.keep (set_keep hn), hn⟩
/-! ### the laws for an append of a text's bytes -/
section
variable {P : Program}
theorem wpList_buf {w : World} {ops : Array Oper} {rest : List Oper} {o : Oper} {a : Act} {Q : Exit → Act → World → Prop} (hgd : o.guard = none) (s x : Operand) (t u : TypeId)
    (ho : o.op = .call { callee := .builtin .append, args := #[s, x], argTypes := #[t, u] }) (e : TypeId) (i : TypeInfo) (ht : P.underlying t = some (.slice e)) (hu : P.underlying u = some .string) (hi : P.info? e = some i) (hz : i.zero = some (.int .u8 0))
    (hsize : i.size = 1) (hby : i.bytes = 1) (g : Nat) (l : List UInt8) (v : Value) (hs : a.eval s = v) (h : Buf e g l v w) (sx : ByteArray) (hx : a.eval x = .string sx) (hb : l.length + sx.size ≤ 2 ^ 40)
    (hk : ∀ v' w' g', Buf e g' (l ++ sx.data.toList) v' w' → (g' = g ∨ g' = w.heap.size) → w.grownBy w' (some g) → wpList P ops Q rest (a.put o.dst v') w') : wpList P ops Q (o :: rest) a w := by
  refine wpList_plain hgd fun K hK => ?_
  obtain ⟨v', w', g', hr, h2, h3, h4⟩ := buf_append (P := P) w t u o.type e i ht hu hi hz hsize hby g l v h sx hb
  unfold Oper.wp execOp
  simp only [ho, resolve, invoke, builtin, Sem.run_bind, Sem.run_pure, Result.andThen_ok, List.map_toArray, List.map_cons, List.map_nil, hs, hx, hr]
  exact hK _ _ (hk v' w' g' h2 h3 h4)
theorem step_buf {w : World} {ops : Array Oper} {o : Oper} {a : Act} {K : Act → World → Prop} {Q : Exit → Act → World → Prop} {E : Prop} (hgd : o.guard = none) (s x : Operand) (t u : TypeId)
    (ho : o.op = .call { callee := .builtin .append, args := #[s, x], argTypes := #[t, u] }) (e : TypeId) (i : TypeInfo) (ht : P.underlying t = some (.slice e)) (hu : P.underlying u = some .string) (hi : P.info? e = some i) (hz : i.zero = some (.int .u8 0))
    (hsize : i.size = 1) (hby : i.bytes = 1) (g : Nat) (l : List UInt8) (v : Value) (hs : a.eval s = v) (h : Buf e g l v w) (sx : ByteArray) (hx : a.eval x = .string sx) (hb : l.length + sx.size ≤ 2 ^ 40)
    (hk : ∀ v' w' g', Buf e g' (l ++ sx.data.toList) v' w' → (g' = g ∨ g' = w.heap.size) → w.grownBy w' (some g) → K (a.put o.dst v') w') :
    if Region.wanted o (yielded ops a.tmps) = true then Oper.wp P o a w K Q else E := by
  have hw : Region.wanted o (yielded ops a.tmps) = true := by simp [Region.wanted, hgd]
  rw [if_pos hw]
  obtain ⟨v', w', g', hr, h2, h3, h4⟩ := buf_append (P := P) w t u o.type e i ht hu hi hz hsize hby g l v h sx hb
  unfold Oper.wp execOp
  simp only [ho, resolve, invoke, builtin, Sem.run_bind, Sem.run_pure, Result.andThen_ok, List.map_toArray, List.map_cons, List.map_nil, hs, hx, hr]
  exact hk v' w' g' h2 h3 h4
end
/-! ### the small walks -/
def NewPost (w : World) (b : Bytes) (e : Ending) (w' : World) : Prop :=
  ∃ d g, e = .returned (.tuple #[.pointer (some ⟨d, 0, none⟩), .nilIface]) ∧ DiskIs d g b false (-1) w' ∧ w.heap.size ≤ d ∧ w.heap.size ≤ g ∧ Below w.heap.size w w'
def CutPost (a : Nat → Addr) (d g : Nat) (b : Bytes) (off : Bool) (n : Int) (w : World) (e : Ending) (w' : World) : Prop :=
  ∃ r, e = .returned r ∧ ((n < 0 ∧ r = sval a 1 ∧ w = w') ∨ (0 ≤ n ∧ off = true ∧ r = sval a 11 ∧ w = w') ∨ (0 ≤ n ∧ off = false ∧ r = .nilIface ∧ DiskIs d g b false n w' ∧ Two d g w w'))
set_option maxRecDepth 100000 in
theorem NewDisk_ok (t : ByteArray) (ht : t.size ≤ 1048576) (w : World) :
    Calls Tryd.prog 17 #[.string t] w (NewPost w t.data.toList) := by
  have hcv := Lib.run_convert_string_bytes (P := Tryd.prog) w 9 55 5 t (u := .string) Tryd.underlying9 Tryd.underlying55 Tryd.underlying5
  have hb := Lib.bytesWorld_below w 5 t
  have hbuf := buf_new w 5 t (by omega)
  have hti : ¬ (1048576 : Int) < (t.size : Int) := by omega
  have hz : (Lib.bytesWorld w 5 t).heap.size = w.heap.size + 1 := by simp [Lib.bytesWorld, World.freeze, World.alloc, World.drew, -World.alloc_eq, -World.drew_eq]
  generalize grownCap w t.size 0 5 = cp at *
  have HBUF := Lib.hid hbuf
  have HB := Lib.hid hb
  have HZ := Lib.hid hz
  clear hbuf hb hz
  go_enter Tryd.func17, Tryd.ntmps17
  go_wp2
  go_ret2
  generalize Lib.bytesWorld w 5 t = W1 at *
  have hlt : w.heap.size < W1.heap.size := by have := HZ.out; omega
  refine ⟨_, w.heap.size, rfl, ⟨_, ⟨heap_alloc_new W1 _, HBUF.out.keep (heap_alloc_old W1 _ hlt), by omega⟩⟩, by omega, Nat.le_refl _, HB.out.alloc (by omega) _⟩
theorem NewDisk_big (a : Nat → Addr) (t : ByteArray) (ht : 1048576 < t.size) (w : World) (hs : SomeS [1] a w) :
    Calls Tryd.prog 17 #[.string t] w fun e w' => e = .returned (.tuple #[.pointer none, sval a 1]) ∧ Below w.heap.size w w' := by
  have hti : (1048576 : Int) < (t.size : Int) := by omega
  have s1 : w.cell? ⟨2, 0, none⟩ = some (sval a 1) := hs 1 (by simp)
  unfold sval at s1
  go_enter Tryd.func17, Tryd.ntmps17
  go_wp2
  go_quiet (fail)
  go_wp2
  go_ret2
  exact ⟨rfl, below_drewN (Below.refl _ _) _⟩
theorem TCut_any (a : Nat → Addr) (d g : Nat) (b : Bytes) (off : Bool) (cut n : Int) (w : World) (h : DiskIs d g b off cut w) (hs : SomeS [1, 11] a w) :
    Calls Tryd.prog 18 #[.pointer (some ⟨d, 0, none⟩), .int .i64 n] w (CutPost a d g b off n w) := by
  obtain ⟨v, h⟩ := h
  obtain ⟨c0, c1, c2, f0, f1, f2⟩ := h.cells
  have H := Lib.hid h
  have s1 : w.cell? ⟨2, 0, none⟩ = some (sval a 1) := hs 1 (by simp)
  have s11 : w.cell? ⟨4, 0, none⟩ = some (sval a 11) := hs 11 (by simp)
  unfold sval at s1 s11
  clear h hs
  by_cases hn : n < 0
  · go_enter Tryd.func18, Tryd.ntmps18
    go_wp2
    go_ret
    exact ⟨_, rfl, .inl ⟨hn, rfl, rfl⟩⟩
  · have hn0 : 0 ≤ n := by omega
    cases off with
    | true =>
      go_enter Tryd.func18, Tryd.ntmps18
      go_wp2
      go_ret
      exact ⟨_, rfl, .inr (.inl ⟨hn0, rfl, rfl, rfl⟩)⟩
    | false =>
      go_enter Tryd.func18, Tryd.ntmps18
      go_wp2
      go_ret
      exact ⟨_, rfl, .inr (.inr ⟨hn0, rfl, rfl, ⟨v, H.out.set2 n⟩, (Two.refl d g w).setCell 2 _⟩)⟩
theorem TOn_any (d g : Nat) (b : Bytes) (off : Bool) (cut : Int) (w : World) (h : DiskIs d g b off cut w) :
    Calls Tryd.prog 33 #[.pointer (some ⟨d, 0, none⟩)] w fun e w' => e = .returned (.tuple #[]) ∧ DiskIs d g b false (-1) w' ∧ Two d g w w' := by
  obtain ⟨v, h⟩ := h
  obtain ⟨c0, c1, c2, f0, f1, f2⟩ := h.cells
  have H := Lib.hid h
  clear h
  go_enter Tryd.func33, Tryd.ntmps33
  go_wp2
  go_end0
  exact ⟨rfl, ⟨v, (H.out.set1 false).set2 (-1)⟩, ((Two.refl d g w).setCell 1 _).setCell 2 _⟩
theorem TPower_any (d g : Nat) (b : Bytes) (off : Bool) (cut : Int) (w : World) (h : DiskIs d g b off cut w) :
    Calls Tryd.prog 22 #[.pointer (some ⟨d, 0, none⟩)] w fun e w' => e = .returned (.bool (!off)) ∧ w = w' := by
  obtain ⟨v, h⟩ := h
  obtain ⟨c0, c1, c2, f0, f1, f2⟩ := h.cells
  clear h
  go_enter Tryd.func22, Tryd.ntmps22
  go_wp2
  go_ret
  exact ⟨rfl, rfl⟩
theorem buf_text {w : World} {g : Nat} {b : Bytes} {v : Value} (h : Buf 5 g b v w) : (convert 55 9 v).run Tryd.prog w = .ok (.string (bs b)) w := by
  have hc := fun j hj => h.cell j hj
  obtain ⟨cap, cur, fz, rfl, _⟩ := h
  exact run_convert_bytes_back (P := Tryd.prog) w 55 9 5 ⟨g, 0, none⟩ cap b Tryd.underlying55 Tryd.underlying5 Tryd.underlying9 (fun j hj => by rw [Lib.add_plain, Nat.zero_add]; exact hc j hj)
theorem TBytes_any (d g : Nat) (b : Bytes) (off : Bool) (cut : Int) (w : World) (h : DiskIs d g b off cut w) :
    Calls Tryd.prog 24 #[.pointer (some ⟨d, 0, none⟩)] w fun e w' => e = .returned (.string (bs b)) ∧ w = w' := by
  obtain ⟨v, h⟩ := h
  obtain ⟨c0, c1, c2, f0, f1, f2⟩ := h.cells
  have hcv := buf_text h.buf
  clear h
  go_enter Tryd.func24, Tryd.ntmps24
  go_wp2
  go_ret
  exact ⟨rfl, rfl⟩
end Go.Proofs.YtpacalklcdlhoaaDoor

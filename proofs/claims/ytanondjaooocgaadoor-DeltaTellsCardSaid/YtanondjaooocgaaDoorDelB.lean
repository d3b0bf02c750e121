/- Walks of the law DeltaBack and of its closed fact 'differs'. Condition: the two errors' variables hold interface values. -/
import Derived.Test.YtanondjaooocgaaDoorDelP
import Derived.Test.YtanondjaooocgaaDoorCutL
namespace Go.Proofs.YtanondjaooocgaaDoor
open Go.RowKit Go.Lib

def opSmall (hv : List Bytes) (o : DOp) : Prop := 0 ≤ o.from_ ∧ o.from_ ≤ hv.length ∧ 0 ≤ o.many ∧ o.many ≤ hv.length
theorem addText_small (hv : List Bytes) (out : List DOp) (p : Bytes) (h : ∀ o ∈ out, opSmall hv o) : ∀ o ∈ addText out p, opSmall hv o := by
  have hnew : opSmall hv ⟨0, 0, p⟩ := ⟨Int.le_refl _, by simp, Int.le_refl _, by simp⟩
  unfold addText
  split
  · rename_i o hl
    split
    · intro q hq
      rcases List.mem_append.1 hq with hq | hq
      · exact h q (List.dropLast_subset _ hq)
      · rw [List.mem_singleton] at hq; subst hq
        have := h o (by rw [last_split hl]; simp)
        exact this
    · intro q hq
      rcases List.mem_append.1 hq with hq | hq
      · exact h q hq
      · rw [List.mem_singleton] at hq; subst hq; exact hnew
  · intro q hq
    rw [List.mem_singleton] at hq; subst hq; exact hnew
theorem mkD_small (hv : List Bytes) : ∀ (f : Nat) (rest : List Bytes) (out : List DOp), (∀ o ∈ out, opSmall hv o) → ∀ o ∈ mkD hv f rest out, opSmall hv o
  | 0, _, _, h => h
  | f + 1, [], out, h => h
  | f + 1, p :: rest, out, h => by
    unfold mkD
    split
    · exact mkD_small hv f rest _ (addText_small hv out p h)
    · rename_i k hf
      refine mkD_small hv f _ _ ?_
      intro q hq
      rcases List.mem_append.1 hq with hq | hq
      · exact h q hq
      · rw [List.mem_singleton] at hq; subst hq
        obtain ⟨hk, _⟩ := fi_lt hf
        have := (common_le (hv.drop (k + 1)) rest).1
        rw [List.length_drop] at this
        exact ⟨by simp, by simp; omega, by simp only; omega, by simp only; omega⟩

/-- the difference of two texts -/
def made (old s : ByteArray) : List DOp := mkD (pieces old.data.toList) (pieces s.data.toList).length (pieces s.data.toList) []
theorem made_val (old s : ByteArray) : opsVal (pieces old.data.toList) (made old s) = s.data.toList := by
  unfold made; rw [mkD_val _ _ _ _ (Nat.le_refl _), pieces_flatten]; rfl
theorem made_ok (old s : ByteArray) : ∀ o ∈ made old s, opOk (pieces old.data.toList) o := mkD_ok _ _ _ _ (pieces_ne _) (by simp)
theorem made_small (old s : ByteArray) : ∀ o ∈ made old s, opSmall (pieces old.data.toList) o := mkD_small _ _ _ _ (by simp)
theorem made_size (old s : ByteArray) : opsSize (made old s) ≤ s.size := by
  have := mkD_size (pieces old.data.toList) (pieces s.data.toList).length (pieces s.data.toList) []
  rw [pieces_flatten] at this
  rw [size_toList]; unfold made; simpa [opsSize] using this
theorem made_length (old s : ByteArray) : (made old s).length ≤ s.size := by
  have := mkD_length (pieces old.data.toList) (pieces s.data.toList).length (pieces s.data.toList) []
  have h2 := pieces_length_le s.data.toList
  rw [size_toList]; unfold made; simp at this; omega
theorem made_known (old s : ByteArray) (h : ∀ p ∈ pieces s.data.toList, p ∈ pieces old.data.toList) : opsSize (made old s) = 0 := mkD_known _ _ _ _ h

/-- the two errors' variables -/
structure Gl (T : TypeId) (pB pS : Value) (w : World) : Prop where
  b1 : 1 < w.heap.size
  b2 : 2 < w.heap.size
  c1 : w.cell? ⟨1, 0, none⟩ = some (.iface T pB)
  c2 : w.cell? ⟨2, 0, none⟩ = some (.iface T pS)
theorem Gl.below {T : TypeId} {pB pS : Value} {w w' : World} (h : Gl T pB pS w) (hb : Below w.heap.size w w') : Gl T pB pS w' :=
  ⟨Nat.lt_of_lt_of_le h.b1 hb.size, Nat.lt_of_lt_of_le h.b2 hb.size, (hb.cell (p := ⟨1, 0, none⟩) h.b1).trans h.c1, (hb.cell (p := ⟨2, 0, none⟩) h.b2).trans h.c2⟩

theorem DMake_made (old s : ByteArray) (ho : old.size ≤ 2 ^ 30) (hs : s.size ≤ 2 ^ 30) (w : World) :
    Calls Tryd.prog 7 #[.string old, .string s] w fun e W' => ∃ v, e = .returned v ∧ W'.ownsRow w.heap.size 45 3 v (made old s).length (opRow (made old s)) ∧ Below w.heap.size w W' := DMake_any old s ho hs w
theorem DApply_made (old s : ByteArray) (v : Value) (B : Nat) (T : TypeId) (pB pS : Value) (w : World) (ho : old.size ≤ 2 ^ 30) (hs : s.size ≤ 2 ^ 30) (ha : RdM w B 3 v (made old s).length (opRow (made old s))) (hB : B ≤ w.heap.size) (hg : Gl T pB pS w) :
    Calls Tryd.prog 8 #[.string old, v] w fun e w' => e = .returned (.tuple #[.string s, .nilIface]) ∧ Below w.heap.size w w' := by
  have hl := made_length old s
  have hpl := pieces_length_le old.data.toList
  rw [← size_toList] at hpl
  refine (DApply_any old v (made old s) B T pB pS w ho ha hB (by omega) (by rw [made_val, ← size_toList]; omega) (fun o hm => ?_) hg.b1 hg.b2 hg.c1 hg.c2).mono ?_
  · obtain ⟨h1, h2, h3, h4⟩ := made_small old s o hm
    exact ⟨WalkArith.wf_i64 (by omega), WalkArith.wf_i64 (by omega)⟩
  · rintro e w' ⟨hb, h⟩
    rw [firstErr_ok _ (made_ok old s) 0] at h
    simp only at h
    rw [made_val, bs_of] at h
    exact ⟨h, hb⟩
theorem DSize_made (old s : ByteArray) (v : Value) (B : Nat) (w : World) (hs : s.size ≤ 2 ^ 30) (ha : RdM w B 3 v (made old s).length (opRow (made old s))) (hB : B ≤ w.heap.size) :
    Calls Tryd.prog 9 #[v] w fun e w' => e = .returned (.int .i64 (opsSize (made old s))) ∧ Below w.heap.size w w' :=
  DSize_any v (made old s) B w ha (by have := made_size old s; omega) (by have := made_length old s; omega) hB

def hello : ByteArray := ⟨#[104, 101, 108, 108, 111]⟩
theorem made_hello : made hello hello = [⟨0, 1, []⟩] := by rfl

set_option maxRecDepth 100000 in
set_option maxHeartbeats 2000000 in
theorem differs_any (T : TypeId) (pB pS : Value) (w : World) (hg : Gl T pB pS w) : Calls Tryd.prog 6 #[] w fun e w' => e = .returned (.bool true) ∧ Below w.heap.size w w' := by
  go_enter Tryd.func6, Tryd.ntmps6
  go_wp2_with fail
  refine (DMake_made hello hello (by decide) (by decide) _).mono ?_
  rintro e W1 ⟨v1, rfl, hr1, hb1⟩
  have hR := RdM.own hr1
  rw [made_hello] at hr1
  obtain ⟨g, cap, rfl, _, hgl⟩ := hr1.form (by decide)
  have hG := Lib.hid (hg.below hb1)
  have HR := Lib.hid hR
  clear hg hR
  go_wp2_with fail
  refine (DApply_made hello hello _ _ T pB pS _ (by decide) (by decide) HR.out (Nat.le_refl _) hG.out).mono ?_
  rintro e W2 ⟨rfl, hb2⟩
  have c1 : W2.cell? ⟨g, 0, none⟩ = some (.int .i64 0) := (hb2.cell (p := ⟨g, 0, none⟩) hgl).trans (hr1.cellAt 0 (by decide))
  have c2 : W2.cell? ⟨g, 1, none⟩ = some (.int .i64 1) := (hb2.cell (p := ⟨g, 1, none⟩) hgl).trans (hr1.cellAt 1 (by decide))
  have c3 : W2.cell? ⟨g, 2, none⟩ = some (.string (bs [])) := (hb2.cell (p := ⟨g, 2, none⟩) hgl).trans (hr1.cellAt 2 (by decide))
  have t0 : (hello.toList == [104, 101, 108, 108, 111]) = true := by rw [ByteArray.toList_eq]; rfl
  have t1 := bs_nil_empty
  go_wp2
  go_ret
  exact ⟨rfl, hb1.trans (hb2.mono hb1.size)⟩
end Go.Proofs.YtanondjaooocgaaDoor

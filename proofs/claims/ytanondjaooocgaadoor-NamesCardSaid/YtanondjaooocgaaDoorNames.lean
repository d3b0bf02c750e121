/- Walk of the law Names: the closed sentence on package api's numbers and its errors. Condition: the twelve sentinels and the type handle lie as the text lays them (Sents). -/
import Derived.Test.YtanondjaooocgaaDoorErrV
import Derived.Test.YtanondjaooocgaaDoorCutS
namespace Go.Proofs.YtanondjaooocgaaDoor
open Go.RowKit Go.Lib

def numsL : List Int := [8, 16, 64, 4000, 12, 30, 250, 6, 20, 40000, 1048576, 80, 16]
theorem nums_rd (w : World) (e : TypeId) : Rd (w.alloc (.cells #[.int .i64 8, .int .i64 16, .int .i64 64, .int .i64 4000, .int .i64 12, .int .i64 30, .int .i64 250, .int .i64 6, .int .i64 20, .int .i64 40000, .int .i64 1048576, .int .i64 80, .int .i64 16] e)) (w.heap.size + 1) (.slice (some ⟨w.heap.size, 0, none⟩) 13 13) (numsL.map VZ) := by
  refine ⟨_, 13, rfl, by decide, fun _ => ⟨w.heap.size, 0, rfl, by omega, fun k u hu => ?_⟩⟩
  rw [Nat.zero_add, World.cell?_alloc_at _ _ _ _ rfl, ← hu, ← Array.getElem?_toList]
  rfl
theorem codedB_hit (c : Int) : codedB c c (-1) = true := by simp [codedB]
set_option maxRecDepth 100000 in
set_option maxHeartbeats 4000000 in
theorem Names_walk (a : Nat → Addr) (w : World) (h : Sents a w) :
    Calls Tryd.prog 4 #[] w fun e w' => e = .returned (.bool true) ∧ Below w.heap.size w w' := by
  have HS := Lib.hid h
  clear h
  go_enter Tryd.func4, Tryd.ntmps4
  go_wp2_with fail
  have hb1 : Below w.heap.size w ((w.alloc (.cells #[.int .i64 8, .int .i64 16, .int .i64 64, .int .i64 4000, .int .i64 12, .int .i64 30, .int .i64 250, .int .i64 6, .int .i64 20, .int .i64 40000, .int .i64 1048576, .int .i64 80, .int .i64 16] 3)).alloc (.cells #[.int .i64 8, .int .i64 16, .int .i64 64, .int .i64 4000, .int .i64 12, .int .i64 30, .int .i64 250, .int .i64 6, .int .i64 20, .int .i64 40000, .int .i64 1048576, .int .i64 80, .int .i64 16] 3)) := ((Below.refl _ _).alloc (Nat.le_refl _) _).alloc (by simp) _
  have r1 := (((nums_rd w 3)).keep (w' := (w.alloc (.cells #[.int .i64 8, .int .i64 16, .int .i64 64, .int .i64 4000, .int .i64 12, .int .i64 30, .int .i64 250, .int .i64 6, .int .i64 20, .int .i64 40000, .int .i64 1048576, .int .i64 80, .int .i64 16] 3)).alloc (.cells #[.int .i64 8, .int .i64 16, .int .i64 64, .int .i64 4000, .int .i64 12, .int .i64 30, .int .i64 250, .int .i64 6, .int .i64 20, .int .i64 40000, .int .i64 1048576, .int .i64 80, .int .i64 16] 3)) (fun p hp => World.cell?_alloc_lt _ _ p (by simp; omega))).more (B' := w.heap.size + 1 + 1) (by simp)
  have r2 := nums_rd (w.alloc (.cells #[.int .i64 8, .int .i64 16, .int .i64 64, .int .i64 4000, .int .i64 12, .int .i64 30, .int .i64 250, .int .i64 6, .int .i64 20, .int .i64 40000, .int .i64 1048576, .int .i64 80, .int .i64 16] 3)) 3
  rw [World.size_alloc] at r2
  have HB1 := Lib.hid hb1
  clear hb1
  refine (SameInts_any _ _ numsL numsL _ _ r1 r2 (by decide) (by decide)).mono ?_
  rintro e w1 ⟨rfl, n, rfl⟩
  have q : decide (numsL = numsL) = true := by simp
  rw [q]
  have hb2 := below_drewN HB1.out n
  generalize World.drewN _ n = W1 at *
  have h1 := HS.out.below hb2
  obtain ⟨c0, c1, c2, c3, c4, c5, c6, c7, c8, c9, c10, c11⟩ := h1.c
  unfold sval at c0 c1 c2 c3 c4 c5 c6 c7 c8 c9 c10 c11
  have H1 := Lib.hid h1
  have HB := Lib.hid hb2
  clear h1 hb2 HS HB1 r1 r2 q
  go_wp2
  clear c0 c1 c2 c3 c4 c5 c6 c7 c8 c9 c10 c11
  have hcell := code_row a W1
  have hb3 : Below W1.heap.size W1 (W1.alloc (.cells #[.iface 60 (.pointer (some (a 0))), .iface 60 (.pointer (some (a 1))), .iface 60 (.pointer (some (a 2))), .iface 60 (.pointer (some (a 3))), .iface 60 (.pointer (some (a 4))), .iface 60 (.pointer (some (a 5))), .iface 60 (.pointer (some (a 6))), .iface 60 (.pointer (some (a 7))), .iface 60 (.pointer (some (a 8))), .iface 60 (.pointer (some (a 9))), .iface 60 (.pointer (some (a 10))), .iface 60 (.pointer (some (a 11)))] 26)) := (Below.refl _ _).alloc (Nat.le_refl _) _
  have hz : W1.heap.size + 1 = (W1.alloc (.cells #[.iface 60 (.pointer (some (a 0))), .iface 60 (.pointer (some (a 1))), .iface 60 (.pointer (some (a 2))), .iface 60 (.pointer (some (a 3))), .iface 60 (.pointer (some (a 4))), .iface 60 (.pointer (some (a 5))), .iface 60 (.pointer (some (a 6))), .iface 60 (.pointer (some (a 7))), .iface 60 (.pointer (some (a 8))), .iface 60 (.pointer (some (a 9))), .iface 60 (.pointer (some (a 10))), .iface 60 (.pointer (some (a 11)))] 26)).heap.size := by simp
  generalize W1.alloc _ = W2 at *
  have H2 := Lib.hid (H1.out.below hb3)
  have HB2 := Lib.hid (HB.out.trans (hb3.mono HB.out.size))
  have hz2 : W1.heap.size < W2.heap.size := by omega
  have HCL := Lib.hid hcell
  clear hcell hb3 hz H1 HB
  go_loopw [4] (fun i wr => ∃ k : Nat, k ≤ 12 ∧ i = .int .i64 k ∧ Below W2.heap.size W2 wr) (fun i _ => 12 - (intOf i).toNat)
  case atStart => exact ⟨0, Nat.zero_le _, rfl, Below.refl _ _⟩
  case round =>
    obtain ⟨k, hk, rfl, hb⟩ := hrel
    by_cases hlt : k < 12
    · have hc := (hb.cell (p := ⟨W1.heap.size, k, none⟩) hz2).trans (HCL.out k hlt)
      unfold sval at hc
      have HR := Lib.hid (H2.out.below hb)
      have hb4 : Below wr.heap.size wr (wr.alloc (.cells #[.int .i64 7, sval a k] 39)) := (Below.refl _ _).alloc (Nat.le_refl _) _
      have hH := Lib.hid hb
      have HR4 := Lib.hid (HR.out.below hb4)
      have HF := Lib.hid (ErrV.fault (t := 7) (b := wr.heap.size) (o := 0) HR4.out k hlt (by rw [World.cell?_alloc_at _ _ _ _ rfl]; rfl) (by rw [World.cell?_alloc_at _ _ _ _ rfl]; rfl))
      have hc4 := (hb4.cell (p := ⟨W1.heap.size, k, none⟩) (by have := hb.size; simp; omega)).trans hc
      have H4 := Lib.hid hb4
      clear hb4
      unfold sval at HF HR4 H4 hc4
      go_wp2_with fail
      refine (Code_any a _ _ _ _ HR4.out HF.out).mono ?_
      rintro e w3 ⟨rfl, hb5⟩
      have hc5 := (hb5.cell (p := ⟨W1.heap.size, k, none⟩) (World.block_lt_of_cell? _ _ hc4)).trans hc4
      have HR5 := Lib.hid (HR4.out.below hb5)
      have HS5 := Lib.hid (ErrV.sent HR5.out k hlt)
      have H5 := Lib.hid hb5
      clear hb5
      have q1 : ((k : Int) + 1 == (k : Int) + 1) = true := by simp
      have HQ := Lib.hid (codedB_hit ((k : Int) + 1))
      go_wp2_with (go_at_call 13; refine (coded1_any a _ _ _ _ _ HR5.out HS5.out).mono ?_; rintro e w6 ⟨rfl, hb6⟩; rw [HQ.out])
      have HE := Lib.hid (((hH.out.trans (H4.out.mono hH.out.size)).trans (H5.out.mono (Nat.le_trans hH.out.size H4.out.size))).trans (hb6.mono (Nat.le_trans (Nat.le_trans hH.out.size H4.out.size) H5.out.size)))
      clear hb6
      go_roundw
      case rel => exact ⟨k + 1, hlt, by go_num, HE.out⟩
      case measure => simp [intOf]; omega
    · obtain rfl : k = 12 := by omega
      have HR := Lib.hid (H2.out.below hb)
      have HW := Lib.hid (HB2.out.trans (hb.mono HB2.out.size))
      clear hb
      go_wp2_with fail
      refine (New_any a _ _ HR.out).mono ?_
      rintro e w3 ⟨v, rfl, he, hb3⟩
      have HR3 := Lib.hid (HR.out.below hb3)
      have HW3 := Lib.hid (HW.out.trans (hb3.mono HW.out.size))
      have HE := Lib.hid he
      clear he hb3
      go_wp2_with fail
      refine (Code_any a _ _ _ _ HR3.out HE.out).mono ?_
      rintro e w4 ⟨rfl, hb4⟩
      have HR4 := Lib.hid (HR3.out.below hb4)
      have HW4 := Lib.hid (HW3.out.trans (hb4.mono HW3.out.size))
      have HQ := Lib.hid (codedB_hit 0)
      clear hb4
      go_wp2_with (go_at_call 13; refine (coded1_any a _ _ _ _ _ HR4.out (ErrV.none a _)).mono ?_; rintro e w6 ⟨rfl, hb6⟩; rw [HQ.out])
      go_ret
      exact ⟨rfl, HW4.out.trans (hb6.mono HW4.out.size)⟩
end Go.Proofs.YtanondjaooocgaaDoor

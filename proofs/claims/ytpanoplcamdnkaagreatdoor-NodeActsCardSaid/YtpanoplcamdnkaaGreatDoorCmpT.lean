/- Walks of cmp.Compare, cmp.Or, print.Compare, print.Less and the reference's IsLess. No conditions but bounds. -/
import Derived.Test.YtpanoplcamdnkaaGreatDoorBox2
import Derived.Test.YtpanoplcamdnkaaGreatDoorBse1
import Derived.Test.YtpanoplcamdnkaaGreatDoorPrt2
import Derived.Test.YtpanoplcamdnkaaGreatDoorRead
import Derived.Deep.QuietTactic
import Derived.BigQuiet
import Derived.Deep.LoopGhost
namespace Go.Proofs.YtpanoplcamdnkaaGreatDoor
open Go.RowKit Go.Lib

def ordZ (x y : Int) : Int := if x < y then -1 else if y < x then 1 else 0
theorem nanU_any (x : Int) (w : World) : Calls Tryz.prog 168 #[.int .u32 x] w fun e w' => e = .returned (.bool false) ∧ w = w' := by
  have h : (x == x) = true := by simp
  go_enter Tryz.func168, Tryz.ntmps168
  go_wp2
  go_ret
  exact ⟨rfl, rfl⟩
theorem nanI_any (x : Int) (w : World) : Calls Tryz.prog 169 #[.int .i64 x] w fun e w' => e = .returned (.bool false) ∧ w = w' := by
  have h : (x == x) = true := by simp
  go_enter Tryz.func169, Tryz.ntmps169
  go_wp2
  go_ret
  exact ⟨rfl, rfl⟩
theorem CmpU_any (x y : Int) (w : World) : Calls Tryz.prog 120 #[.int .u32 x, .int .u32 y] w fun e w' => e = .returned (.int .i64 (ordZ x y)) ∧ w = w' := by
  by_cases h1 : x < y
  · have HJ : Hid (ordZ x y = -1) := Lib.hid (by unfold ordZ; rw [if_pos h1])
    go_enter Tryz.func120, Tryz.ntmps120
    go_wp2_with (go_at_call 168; refine (nanU_any _ _).mono ?_; rintro e w1 ⟨rfl, rfl⟩)
    go_ret
    exact ⟨by rw [HJ.out]; rfl, rfl⟩
  · by_cases h2 : y < x
    · have HJ : Hid (ordZ x y = 1) := Lib.hid (by unfold ordZ; rw [if_neg h1, if_pos h2])
      go_enter Tryz.func120, Tryz.ntmps120
      go_wp2_with (go_at_call 168; refine (nanU_any _ _).mono ?_; rintro e w1 ⟨rfl, rfl⟩)
      go_ret
      exact ⟨by rw [HJ.out]; rfl, rfl⟩
    · have HJ : Hid (ordZ x y = 0) := Lib.hid (by unfold ordZ; rw [if_neg h1, if_neg h2])
      go_enter Tryz.func120, Tryz.ntmps120
      go_wp2_with (go_at_call 168; refine (nanU_any _ _).mono ?_; rintro e w1 ⟨rfl, rfl⟩)
      go_ret
      exact ⟨by rw [HJ.out]; rfl, rfl⟩
theorem CmpI_any (x y : Int) (w : World) : Calls Tryz.prog 121 #[.int .i64 x, .int .i64 y] w fun e w' => e = .returned (.int .i64 (ordZ x y)) ∧ w = w' := by
  by_cases h1 : x < y
  · have HJ : Hid (ordZ x y = -1) := Lib.hid (by unfold ordZ; rw [if_pos h1])
    go_enter Tryz.func121, Tryz.ntmps121
    go_wp2_with (go_at_call 169; refine (nanI_any _ _).mono ?_; rintro e w1 ⟨rfl, rfl⟩)
    go_ret
    exact ⟨by rw [HJ.out]; rfl, rfl⟩
  · by_cases h2 : y < x
    · have HJ : Hid (ordZ x y = 1) := Lib.hid (by unfold ordZ; rw [if_neg h1, if_pos h2])
      go_enter Tryz.func121, Tryz.ntmps121
      go_wp2_with (go_at_call 169; refine (nanI_any _ _).mono ?_; rintro e w1 ⟨rfl, rfl⟩)
      go_ret
      exact ⟨by rw [HJ.out]; rfl, rfl⟩
    · have HJ : Hid (ordZ x y = 0) := Lib.hid (by unfold ordZ; rw [if_neg h1, if_neg h2])
      go_enter Tryz.func121, Tryz.ntmps121
      go_wp2_with (go_at_call 169; refine (nanI_any _ _).mono ?_; rintro e w1 ⟨rfl, rfl⟩)
      go_ret
      exact ⟨by rw [HJ.out]; rfl, rfl⟩
def orZ (x y : Int) : Int := if x ≠ 0 then x else y
theorem CmpOr_two (x y : Int) (g : Nat) (w : World) (h0 : w.cell? ⟨g, 0, none⟩ = some (.int .i64 x)) (h1 : w.cell? ⟨g, 1, none⟩ = some (.int .i64 y)) :
    Calls Tryz.prog 119 #[.slice (some ⟨g, 0, none⟩) 2 2] w fun e w' => e = .returned (.int .i64 (orZ x y)) ∧ w = w' := by
  by_cases hx : x = 0
  · have HJ : Hid (orZ x y = y) := Lib.hid (by unfold orZ; rw [if_neg (by simpa using hx)])
    have hxi : (x == 0) = true := by simpa using hx
    by_cases hy : y = 0
    · have hyi : (y == 0) = true := by simpa using hy
      have HY := Lib.hid hy
      clear hx hy
      go_enter Tryz.func119, Tryz.ntmps119
      go_wp2
      refine wp_loop_rounds 3 ?_
      rw [rounds_succ]
      go_wp2
      rw [rounds_succ]
      go_wp2
      rw [rounds_succ]
      go_wp2
      go_ret
      exact ⟨by rw [HJ.out, HY.out]; rfl, rfl⟩
    · have hyi : (y == 0) = false := by simpa using hy
      clear hx hy
      go_enter Tryz.func119, Tryz.ntmps119
      go_wp2
      refine wp_loop_rounds 2 ?_
      rw [rounds_succ]
      go_wp2
      rw [rounds_succ]
      go_wp2
      go_ret
      exact ⟨by rw [HJ.out]; rfl, rfl⟩
  · have HJ : Hid (orZ x y = x) := Lib.hid (by unfold orZ; rw [if_pos (by simpa using hx)])
    have hxi : (x == 0) = false := by simpa using hx
    clear hx
    go_enter Tryz.func119, Tryz.ntmps119
    go_wp2
    refine wp_loop_rounds 1 ?_
    rw [rounds_succ]
    go_wp2
    go_ret
    exact ⟨by rw [HJ.out]; rfl, rfl⟩
def cmpId (p q : Nat) (m n : Int) : Int := orZ (ordZ p q) (ordZ m n)
def lessId (p q : Nat) (m n : Int) : Bool := if p ≠ q then decide (p < q) else decide (m < n)
theorem cmpId_less (p q : Nat) (m n : Int) : decide (cmpId p q m n < 0) = lessId p q m n := by
  unfold cmpId lessId orZ ordZ
  by_cases h : p = q
  · subst h
    simp
    by_cases h1 : m < n
    · simp [h1]
    · rw [if_neg h1]
      split <;> simp [h1]
  · rw [if_pos h]
    rcases Nat.lt_or_gt_of_ne h with h1 | h1
    · rw [if_pos (show (p : Int) < q by omega)]; simp [h1]
    · rw [if_neg (show ¬ (p : Int) < q by omega), if_pos (show (q : Int) < p by omega)]; simp; omega
set_option maxRecDepth 100000 in
set_option maxHeartbeats 1000000 in
theorem PCompare_any (p q : Nat) (m n : Int) (w : World) :
    Calls Tryz.prog 70 #[.agg #[.int .u32 (p : Int), .int .i64 m], .agg #[.int .u32 (q : Int), .int .i64 n]] w fun e w' => e = .returned (.int .i64 (cmpId p q m n)) ∧ Below w.heap.size w w' := by
  have hb0 : Below w.heap.size w ((w.alloc (.cells #[.int .u32 (p : Int), .int .i64 m] 47)).alloc (.cells #[.int .u32 (q : Int), .int .i64 n] 47)) := ((Below.refl _ w).alloc (Nat.le_refl _) _).alloc (by simp) _
  have ha : Box2 w.heap.size (.int .u32 (p : Int)) (.int .i64 m) ((w.alloc (.cells #[.int .u32 (p : Int), .int .i64 m] 47)).alloc (.cells #[.int .u32 (q : Int), .int .i64 n] 47)) := (Box2.mk' w _ _ _).alloc _
  have hb : Box2 (w.heap.size + 1) (.int .u32 (q : Int)) (.int .i64 n) ((w.alloc (.cells #[.int .u32 (p : Int), .int .i64 m] 47)).alloc (.cells #[.int .u32 (q : Int), .int .i64 n] 47)) := by
    have := Box2.mk' (w.alloc (.cells #[.int .u32 (p : Int), .int .i64 m] 47)) (.int .u32 (q : Int)) (.int .i64 n) 47
    simpa using this
  have HA := Lib.hid ha
  have HB := Lib.hid hb
  have HB0 := Lib.hid hb0
  clear ha hb hb0
  go_enter Tryz.func70, Tryz.ntmps70
  go_wp2_with fail
  generalize (w.alloc (.cells #[.int .u32 (p : Int), .int .i64 m] 47)).alloc (.cells #[.int .u32 (q : Int), .int .i64 n] 47) = w2 at *
  have hS0 : Below w2.heap.size w2 w2.drew := (Below.refl _ _).drew
  refine region_S (fun w' => Below w2.heap.size w2 w') 12 (by kernel_rfl) (by kernel_rfl) ?_
  refine take_S 0 rfl (by kernel_rfl) (by kernel_rfl) hS0 (fun w' hS => by go_simp; rfl) ?_
  refine take_S 1 rfl (by kernel_rfl) (by kernel_rfl) hS0 (fun w' hS => by have A0 := (HA.out.below hS HA.out.lt).c0; have A1 := (HA.out.below hS HA.out.lt).c1; go_simp; rfl) ?_
  refine take_S 2 rfl (by kernel_rfl) (by kernel_rfl) hS0 (fun w' hS => by go_simp; rfl) ?_
  refine take_S 3 rfl (by kernel_rfl) (by kernel_rfl) hS0 (fun w' hS => by have B0 := (HB.out.below hS HB.out.lt).c0; have B1 := (HB.out.below hS HB.out.lt).c1; go_simp; rfl) ?_
  refine take_S 5 rfl (by kernel_rfl) (by kernel_rfl) hS0 (fun w' hS => by go_simp; rfl) ?_
  refine take_S 6 rfl (by kernel_rfl) (by kernel_rfl) hS0 (fun w' hS => by have A0 := (HA.out.below hS HA.out.lt).c0; have A1 := (HA.out.below hS HA.out.lt).c1; go_simp; rfl) ?_
  refine take_S 7 rfl (by kernel_rfl) (by kernel_rfl) hS0 (fun w' hS => by go_simp; rfl) ?_
  refine take_S 8 rfl (by kernel_rfl) (by kernel_rfl) hS0 (fun w' hS => by have B0 := (HB.out.below hS HB.out.lt).c0; have B1 := (HB.out.below hS HB.out.lt).c1; go_simp; rfl) ?_
  refine carry_S 4 rfl (by kernel_rfl) (by decide) (by kernel_rfl) (fun K hK => ?_)
  go_simp
  refine (CmpU_any p q _).mono ?_
  rintro e w3 ⟨rfl, rfl⟩
  refine hK _ _ hS0 ?_
  clear hK K
  try simp only [Act.put, List.getElem_toArray, List.getElem_cons_succ, List.getElem_cons_zero, List.setIfInBounds_toArray, List.set_cons_zero, List.set_cons_succ]
  refine carry_S 9 rfl (by kernel_rfl) (by decide) (by kernel_rfl) (fun K hK => ?_)
  go_simp
  refine (CmpI_any m n _).mono ?_
  rintro e w3 ⟨rfl, rfl⟩
  refine hK _ _ hS0 ?_
  clear hK K
  try simp only [Act.put, List.getElem_toArray, List.getElem_cons_succ, List.getElem_cons_zero, List.setIfInBounds_toArray, List.set_cons_zero, List.set_cons_succ]
  refine carry_S 10 rfl (by kernel_rfl) (by decide) (by kernel_rfl) (fun K hK => ?_)
  go_simp
  have hS1 := hS0.alloc hS0.size (.cells #[.int .i64 (ordZ p q), .int .i64 (ordZ m n)] 3)
  refine hK _ _ hS1 ?_
  clear hK K
  try simp only [Act.put, List.getElem_toArray, List.getElem_cons_succ, List.getElem_cons_zero, List.setIfInBounds_toArray, List.set_cons_zero, List.set_cons_succ]
  refine carry_S 11 rfl (by kernel_rfl) (by decide) (by kernel_rfl) (fun K hK => ?_)
  go_simp
  refine (CmpOr_two (ordZ p q) (ordZ m n) w2.heap.size _ (by show (w2.alloc _).cell? ⟨w2.heap.size, 0, none⟩ = _; rw [World.cell?_alloc_at _ _ _ _ rfl]; rfl) (by show (w2.alloc _).cell? ⟨w2.heap.size, 1, none⟩ = _; rw [World.cell?_alloc_at _ _ _ _ rfl]; rfl)).mono ?_
  rintro e w3 ⟨rfl, rfl⟩
  refine hK _ _ hS1 (forced_S (by kernel_rfl) ?_)
  clear hK K
  try simp only [Act.put, List.getElem_toArray, List.getElem_cons_succ, List.getElem_cons_zero, List.setIfInBounds_toArray, List.set_cons_zero, List.set_cons_succ]
  simp only [List.drop_succ_cons, List.drop_zero]
  have hB9 := HB0.out.trans (hS1.mono HB0.out.size)
  go_wp2
  go_ret
  exact ⟨rfl, hB9⟩
set_option maxRecDepth 100000 in
theorem RIsLess_any (p q : Nat) (m n : Int) (w : World) :
    Calls Tryz.prog 84 #[.agg #[.int .u32 (p : Int), .int .i64 m], .agg #[.int .u32 (q : Int), .int .i64 n]] w fun e w' => e = .returned (.bool (lessId p q m n)) ∧ Below w.heap.size w w' := by
  have hb0 : Below w.heap.size w ((w.alloc (.cells #[.int .u32 (p : Int), .int .i64 m] 47)).alloc (.cells #[.int .u32 (q : Int), .int .i64 n] 47)) := ((Below.refl _ w).alloc (Nat.le_refl _) _).alloc (by simp) _
  by_cases h : p = q
  · have HJ : Hid (lessId p q m n = decide (m < n)) := Lib.hid (by unfold lessId; rw [if_neg (by simpa using h)])
    have hi : ((p : Int) == (q : Int)) = true := by rw [h]; simp
    clear h
    go_enter Tryz.func84, Tryz.ntmps84
    go_wp2
    go_ret
    exact ⟨by rw [HJ.out]; rfl, hb0⟩
  · have HJ : Hid (lessId p q m n = decide (p < q)) := Lib.hid (by unfold lessId; rw [if_pos h])
    have hi : ((p : Int) == (q : Int)) = false := by rw [beq_eq_false_iff_ne]; omega
    clear h
    go_enter Tryz.func84, Tryz.ntmps84
    go_wp2
    go_ret
    exact ⟨by rw [HJ.out]; rfl, hb0⟩
end Go.Proofs.YtpanoplcamdnkaaGreatDoor

/- Walk of the reference's JoinNodes. No conditions but bounds. -/
import Derived.Test.YtpacalklcdlhoaaGreatDoorRefO
import Derived.Test.YtpacalklcdlhoaaGreatDoorSame
import Derived.Test.YtpacalklcdlhoaaGreatDoorBox2
import Derived.Test.YtpacalklcdlhoaaGreatDoorApp
import Derived.Test.YtpacalklcdlhoaaGreatDoorInsR
namespace Go.Proofs.YtpacalklcdlhoaaGreatDoor
open Go.RowKit Go.Lib

theorem info_int' : (Tryz.prog.info? 3).map (fun i => (i.zero, i.size, i.bytes)) = some (some (.int .i64 0), 1, 8) := by kernel_rfl
theorem place_lt (l : List Int) (n : Int) : ∀ (k : Nat) (h : k < placeOf l n), l[k]'(Nat.lt_of_lt_of_le h (placeOf_le l n)) < n := by
  induction l with
  | nil => intro k h; simp [placeOf] at h
  | cons a l ih =>
    intro k h
    unfold placeOf at h ih
    rw [List.takeWhile_cons] at h
    by_cases ha : a < n
    · rw [if_pos (by simpa using ha)] at h
      cases k with
      | zero => exact ha
      | succ k => exact ih k (by simpa using h)
    · rw [if_neg (by simpa using ha)] at h
      simp at h
theorem place_ge (l : List Int) (n : Int) (h : placeOf l n < l.length) : ¬ l[placeOf l n] < n := by
  induction l with
  | nil => simp at h
  | cons a l ih =>
    by_cases ha : a < n
    · have e : placeOf (a :: l) n = placeOf l n + 1 := by unfold placeOf; rw [List.takeWhile_cons, if_pos (by simpa using ha)]; rfl
      simp only [e] at h ⊢
      exact ih (by simpa using h)
    · have e : placeOf (a :: l) n = 0 := by unfold placeOf; rw [List.takeWhile_cons, if_neg (by simpa using ha)]; rfl
      simp only [e]
      exact ha
theorem vi_one (l : List Int) : ∀ u ∈ l.map VI', u.oneCell' = true := fun u hu => by obtain ⟨x, _, rfl⟩ := List.mem_map.1 hu; rfl
/-- the results of the two functions, as they are read -/
def NodesPost (w : World) (l : List Int) (f : Int × Int) (e : Ending) (w' : World) : Prop :=
  ∃ v', e = .returned (.tuple #[v', .agg #[.int .i64 f.1, .int .i64 f.2]]) ∧ RdF w.heap.size w' v' (l.map VI') ∧ Below w.heap.size w w'
theorem joinErr_a {l : List Int} {n : Int} (h : (nodesErr 0 none l).1 ≠ 0) : joinErr l n = nodesErr 0 none l := by unfold joinErr; rw [if_pos h]
theorem joinErr_b {l : List Int} {n : Int} (h : (nodesErr 0 none l).1 = 0) (h2 : ¬ nodeOk n) : joinErr l n = (2, -1) := by unfold joinErr; rw [if_neg (by rw [h]; simp), if_pos h2]
theorem joinErr_c {l : List Int} {n : Int} (h : (nodesErr 0 none l).1 = 0) (h2 : nodeOk n) (h3 : n ∈ l) : joinErr l n = (6, -1) := by unfold joinErr; rw [if_neg (by rw [h]; simp), if_neg (by simpa using h2), if_pos h3]
theorem joinErr_d {l : List Int} {n : Int} (h : (nodesErr 0 none l).1 = 0) (h2 : nodeOk n) (h3 : n ∉ l) : joinErr l n = (0, -1) := by unfold joinErr; rw [if_neg (by rw [h]; simp), if_neg (by simpa using h2), if_neg h3]
set_option maxRecDepth 100000 in
set_option maxHeartbeats 4000000 in
theorem RJoinNodes_bad (v : Value) (l : List Int) (n : Int) (w : World) (hv : Rd w w.heap.size v (l.map VI')) (hl : l.length ≤ 2 ^ 40) (hbad : (joinErr l n).1 ≠ 0) :
    Calls Tryz.prog 14 #[v, .int .i64 n] w (NodesPost w (joinRes l n) (joinErr l n)) := by
  have hb0 : Below w.heap.size w (w.alloc (.cells #[.int .i64 0, .int .i64 0] 32)) := (Below.refl _ w).alloc (Nat.le_refl _) _
  have hrs : Box2 w.heap.size (.int .i64 0) (.int .i64 0) (w.alloc (.cells #[.int .i64 0, .int .i64 0] 32)) := Box2.mk' w _ _ _
  have HV := Lib.hid ((hv.below hb0).more hb0.size)
  have HR := Lib.hid (joinRes_bad hbad)
  by_cases hz : (nodesErr 0 none l).1 = 0
  · have hck : nodesErr 0 none l = (0, -1) := nodesErr_place l 0 none hz
    have HK := Lib.hid hck
    by_cases hno : nodeOk n
    · have hin : n ∈ l := by
        refine Classical.byContradiction fun h => hbad ?_
        rw [joinErr_d hz hno h]
      have HJ := Lib.hid (joinErr_c hz hno hin)
      have HIN : Hid (decide (n ∈ l) = true) := Lib.hid (decide_eq_true hin)
      obtain ⟨n1, n6⟩ := hno
      clear hz hck hin hbad
      go_enter Tryz.func14, Tryz.ntmps14
      go_wp2_with fail
      generalize w.alloc (.cells #[.int .i64 0, .int .i64 0] 32) = w0 at *
      refine (RnodesFault_any _ l w0 HV.out hl).mono ?_
      rintro e w1 ⟨rfl, hb1⟩
      rw [HK.out]
      have hfb := Box2.mk' w1 (.int .i64 0) (.int .i64 (-1)) 32
      have hrs2 := (hrs.below hb1 hrs.lt).alloc (.cells #[.int .i64 0, .int .i64 (-1)] 32)
      have hb2 := (hb0.trans (hb1.mono hb0.size)).alloc (Nat.le_trans hb0.size hb1.size) (.cells #[.int .i64 0, .int .i64 (-1)] 32)
      have HV2 := Lib.hid ((HV.out.below hb1).below ((Below.refl _ w1).alloc hb1.size (.cells #[.int .i64 0, .int .i64 (-1)] 32)))
      obtain ⟨e0, e1, _, _⟩ := hfb
      have HRS := Lib.hid hrs2
      clear hrs hrs2
      go_wp2_with fail
      generalize w1.alloc (.cells #[.int .i64 0, .int .i64 (-1)] 32) = w2 at *
      refine (InInts_any n v l _ w2 HV2.out (by omega)).mono ?_
      rintro e w3 ⟨rfl, rfl⟩
      rw [HIN.out]
      go_wp2_with fail
      refine (RBare_any 6 _).mono ?_
      rintro e w3 ⟨rfl, hb3⟩
      have hrs3 := HRS.out.below hb3 HRS.out.lt
      have hb4 := hb2.trans (hb3.mono hb2.size)
      obtain ⟨t0, t1, t2⟩ := hrs3.rd (.int .i64 6) (.int .i64 (-1))
      have hb7 := below_set2 hb4 (b := w.heap.size) (Nat.le_refl _) (.int .i64 6) (.int .i64 (-1))
      obtain ⟨d0, d1, f0, f1⟩ := hrs3
      clear hb2 hb3 hb4
      go_wp2
      refine bodyPost_ret (v := .tuple #[.slice none 0 0, .agg #[.int .i64 6, .int .i64 (-1)]]) (by simp [results, Tryz.results14, go_sem, t0, t1, t2]) rfl ?_
      exact ⟨_, by rw [HJ.out], by rw [HR.out]; exact RdF.nil _ _, hb7⟩
    · have HJ := Lib.hid (joinErr_b hz hno)
      have hno' : n < 1 ∨ 6 < n := by unfold nodeOk at hno; omega
      clear hz hck hbad hno
      go_enter Tryz.func14, Tryz.ntmps14
      go_wp2_with fail
      generalize w.alloc (.cells #[.int .i64 0, .int .i64 0] 32) = w0 at *
      refine (RnodesFault_any _ l w0 HV.out hl).mono ?_
      rintro e w1 ⟨rfl, hb1⟩
      rw [HK.out]
      have hfb := Box2.mk' w1 (.int .i64 0) (.int .i64 (-1)) 32
      have hrs2 := (hrs.below hb1 hrs.lt).alloc (.cells #[.int .i64 0, .int .i64 (-1)] 32)
      have hb2 := (hb0.trans (hb1.mono hb0.size)).alloc (Nat.le_trans hb0.size hb1.size) (.cells #[.int .i64 0, .int .i64 (-1)] 32)
      obtain ⟨e0, e1, _, _⟩ := hfb
      have HRS := Lib.hid hrs2
      clear hrs hrs2
      rcases hno' with hno' | hno'
      · go_wp2_with fail
        generalize w1.alloc (.cells #[.int .i64 0, .int .i64 (-1)] 32) = w2 at *
        refine (RBare_any 2 _).mono ?_
        rintro e w3 ⟨rfl, hb3⟩
        have hrs3 := HRS.out.below hb3 HRS.out.lt
        have hb4 := hb2.trans (hb3.mono hb2.size)
        obtain ⟨t0, t1, t2⟩ := hrs3.rd (.int .i64 2) (.int .i64 (-1))
        have hb7 := below_set2 hb4 (b := w.heap.size) (Nat.le_refl _) (.int .i64 2) (.int .i64 (-1))
        obtain ⟨d0, d1, f0, f1⟩ := hrs3
        clear hb2 hb3 hb4
        go_wp2
        refine bodyPost_ret (v := .tuple #[.slice none 0 0, .agg #[.int .i64 2, .int .i64 (-1)]]) (by simp [results, Tryz.results14, go_sem, t0, t1, t2]) rfl ?_
        exact ⟨_, by rw [HJ.out], by rw [HR.out]; exact RdF.nil _ _, hb7⟩
      · have hn1 : ¬ n < 1 := by omega
        go_wp2_with fail
        generalize w1.alloc (.cells #[.int .i64 0, .int .i64 (-1)] 32) = w2 at *
        refine (RBare_any 2 _).mono ?_
        rintro e w3 ⟨rfl, hb3⟩
        have hrs3 := HRS.out.below hb3 HRS.out.lt
        have hb4 := hb2.trans (hb3.mono hb2.size)
        obtain ⟨t0, t1, t2⟩ := hrs3.rd (.int .i64 2) (.int .i64 (-1))
        have hb7 := below_set2 hb4 (b := w.heap.size) (Nat.le_refl _) (.int .i64 2) (.int .i64 (-1))
        obtain ⟨d0, d1, f0, f1⟩ := hrs3
        clear hb2 hb3 hb4
        go_wp2
        refine bodyPost_ret (v := .tuple #[.slice none 0 0, .agg #[.int .i64 2, .int .i64 (-1)]]) (by simp [results, Tryz.results14, go_sem, t0, t1, t2]) rfl ?_
        exact ⟨_, by rw [HJ.out], by rw [HR.out]; exact RdF.nil _ _, hb7⟩
  · have HJ := Lib.hid (joinErr_a (n := n) hz)
    have hpos := nodesErr_pos l 0 none hz
    generalize hq : nodesErr 0 none l = q at *
    have HQ := Lib.hid hq
    clear hz hbad hq
    go_enter Tryz.func14, Tryz.ntmps14
    go_wp2_with fail
    generalize w.alloc (.cells #[.int .i64 0, .int .i64 0] 32) = w0 at *
    refine (RnodesFault_any _ l w0 HV.out hl).mono ?_
    rintro e w1 ⟨rfl, hb1⟩
    rw [HQ.out]
    have hfb := Box2.mk' w1 (.int .i64 q.1) (.int .i64 q.2) 32
    have hrs2 := (hrs.below hb1 hrs.lt).alloc (.cells #[.int .i64 q.1, .int .i64 q.2] 32)
    have hb2 := (hb0.trans (hb1.mono hb0.size)).alloc (Nat.le_trans hb0.size hb1.size) (.cells #[.int .i64 q.1, .int .i64 q.2] 32)
    have hb7 := (below_set2 hb2 (b := w.heap.size) (Nat.le_refl _) (.int .i64 q.1) (.int .i64 q.2)).drew
    obtain ⟨e0, e1, _, _⟩ := hfb
    obtain ⟨t0, t1, t2⟩ := hrs2.rd (.int .i64 q.1) (.int .i64 q.2)
    obtain ⟨d0, d1, f0, f1⟩ := hrs2
    have hz1 : w1.heap.size < (w1.alloc (.cells #[.int .i64 q.1, .int .i64 q.2] 32)).heap.size := by simp
    clear hrs hb2
    go_wp2
    generalize w1.alloc (.cells #[.int .i64 q.1, .int .i64 q.2] 32) = w2 at *
    go_region
    go_wp2
    refine bodyPost_ret (v := .tuple #[.slice none 0 0, .agg #[.int .i64 q.1, .int .i64 q.2]]) (by simp [results, Tryz.results14, go_sem, t0, t1, t2]) rfl ?_
    exact ⟨_, by rw [HJ.out], by rw [HR.out]; exact RdF.nil _ _, hb7⟩
end Go.Proofs.YtpacalklcdlhoaaGreatDoor

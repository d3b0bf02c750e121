/- Walk of the reference's LeaveNodes. No conditions but bounds. -/
import Derived.Test.YtpacalklcdlhoaaGreatDoorRefK
namespace Go.Proofs.YtpacalklcdlhoaaGreatDoor
open Go.RowKit Go.Lib

theorem leave_snoc_ne (l : List Int) (n : Int) (k : Nat) (h : k < l.length) (hn : l[k] ≠ n) : leaveOf (l.take (k + 1)) n = leaveOf (l.take k) n ++ [l[k]] := by
  rw [List.take_succ_eq_append_getElem h]; unfold leaveOf; rw [List.filter_append]; congr 1; simp [hn]
theorem leave_snoc_eq (l : List Int) (n : Int) (k : Nat) (h : k < l.length) (hn : l[k] = n) : leaveOf (l.take (k + 1)) n = leaveOf (l.take k) n := by
  rw [List.take_succ_eq_append_getElem h]; unfold leaveOf; rw [List.filter_append]; simp [hn]
theorem leave_len (l : List Int) (n : Int) (k : Nat) (h : k ≤ l.length) : (leaveOf (l.take k) n).length ≤ k := by
  have := List.length_filter_le (fun m => !(m == n)) (l.take k)
  rw [List.length_take] at this
  unfold leaveOf; omega
theorem leave_in (l : List Int) (n : Int) (h : n ∈ l) : (leaveOf l n).length < l.length := by
  unfold leaveOf
  have h1 := List.length_filter_le (fun m => !(m == n)) l
  rcases Nat.lt_or_ge (l.filter (fun m => !(m == n))).length l.length with h2 | h2
  · exact h2
  · have := List.filter_eq_self.1 (List.filter_sublist.eq_of_length_le h2) n h
    simp at this
theorem leave_out (l : List Int) (n : Int) (h : n ∉ l) : leaveOf l n = l := by
  unfold leaveOf
  rw [List.filter_eq_self]
  intro m hm
  have : m ≠ n := fun e => h (e ▸ hm)
  simpa using this
theorem leaveErr_a {l : List Int} {n : Int} (h : (checkErr l).1 ≠ 0) : leaveErr l n = checkErr l := by unfold leaveErr; rw [if_pos h]
theorem leaveErr_b {l : List Int} {n : Int} (h : (checkErr l).1 = 0) (h2 : n ∈ l) : leaveErr l n = (0, -1) := by unfold leaveErr; rw [if_neg (by rw [h]; simp), if_pos h2]
theorem leaveErr_c {l : List Int} {n : Int} (h : (checkErr l).1 = 0) (h2 : n ∉ l) : leaveErr l n = (5, -1) := by unfold leaveErr; rw [if_neg (by rw [h]; simp), if_neg h2]
theorem vi_snoc {w : World} {base : Nat} {v : Value} {L : List Int} {x : Int} (h : w.ownsRow base 3 1 v (L.length + 1) (L.map VI' ++ [.int .i64 x])) : w.ownsRow base 3 1 v (L ++ [x]).length ((L ++ [x]).map VI') := by
  rw [List.length_append, List.map_append]; exact h
set_option maxRecDepth 100000 in
set_option maxHeartbeats 4000000 in
theorem RLeaveNodes_any (v : Value) (l : List Int) (n : Int) (w : World) (hv : Rd w w.heap.size v (l.map VI')) (hl : l.length ≤ 2 ^ 40) :
    Calls Tryz.prog 17 #[v, .int .i64 n] w (NodesPost w (leaveRes l n) (leaveErr l n)) := by
  obtain ⟨i0, hi, hz0, hz1, hz2⟩ := info_parts info_int'
  have hb0 : Below w.heap.size w (w.alloc (.cells #[.int .i64 0, .int .i64 0] 32)) := (Below.refl _ w).alloc (Nat.le_refl _) _
  have hrs : Box2 w.heap.size (.int .i64 0) (.int .i64 0) (w.alloc (.cells #[.int .i64 0, .int .i64 0] 32)) := Box2.mk' w _ _ _
  have HV := Lib.hid ((hv.below hb0).more hb0.size)
  by_cases hz : (checkErr l).1 = 0
  · obtain ⟨hne, hno, hri⟩ := checkErr_zero l hz
    have hck : checkErr l = (0, -1) := checkErr_ok l hne hno hri
    have HK := Lib.hid hck
    obtain ⟨A, c, rfl, hlc, hx⟩ := hv
    obtain ⟨g, o, rfl, hg, hcx⟩ := hx (by simpa using hne)
    rw [List.length_map] at *
    have HX := Lib.hid hcx
    have HC1 := Lib.hid (fun (h : n ∈ l) => leaveErr_b hz h)
    have HC2 := Lib.hid (fun (h : n ∉ l) => leaveErr_c hz h)
    clear hz hck hne hno hri hx hcx
    go_enter Tryz.func17, Tryz.ntmps17
    go_wp2_with fail
    generalize w.alloc (.cells #[.int .i64 0, .int .i64 0] 32) = w0 at *
    refine (RNodesFault_any _ l w0 HV.out hl).mono ?_
    rintro e w1 ⟨rfl, hb1⟩
    rw [HK.out]
    have hrs2 := (hrs.below hb1 hrs.lt).alloc (.cells #[.int .i64 0, .int .i64 (-1)] 32)
    have hb2 := (hb0.trans (hb1.mono hb0.size)).alloc (Nat.le_trans hb0.size hb1.size) (.cells #[.int .i64 0, .int .i64 (-1)] 32)
    have hfb := Box2.mk' w1 (.int .i64 0) (.int .i64 (-1)) 32
    have HFB := Lib.hid hfb
    obtain ⟨e0, e1, _, _⟩ := hfb
    have HRS := Lib.hid hrs2
    have HB2 := Lib.hid hb2
    have hzz : w1.heap.size < (w1.alloc (.cells #[.int .i64 0, .int .i64 (-1)] 32)).heap.size := by simp
    clear hrs hrs2 hb0 hb1 hb2
    go_wp2
    generalize w1.alloc (.cells #[.int .i64 0, .int .i64 (-1)] 32) = w2 at *
    go_loopg [7, 8] l.length (fun gh vs vi wr => ∃ (k : Nat) (L : List Int), vi = .int .i64 k ∧ k ≤ l.length ∧ gh = l.length - k ∧ Hid (leaveOf (l.take k) n = L) ∧ L.length ≤ k ∧ wr.ownsRow w2.heap.size 3 1 vs L.length (L.map VI') ∧ Below w2.heap.size w2 wr)
    case atStart => exact ⟨0, [], rfl, Nat.zero_le _, rfl, Lib.hid (by simp [leaveOf]), Nat.le_refl _, World.ownsRow_nil _ _ _ _, Below.refl _ _⟩
    case round =>
      obtain ⟨k, L, rfl, hk, hgm, hL, hLk, hrow, hB⟩ := hrel
      by_cases hkl : k < l.length
      · have hck := ((HB2.out.trans (hB.mono HB2.out.size)).cell (p := ⟨g, o + k, none⟩) hg).trans (HX.out k (.int .i64 l[k]) (by simp [hkl]))
        have H1 := Lib.hid (leave_snoc_ne l n k hkl)
        have H2 := Lib.hid (leave_snoc_eq l n k hkl)
        generalize l[k] = m at *
        have b1 : (0 : Int) ≤ (k : Int) := by omega
        have b2 : (k : Int) < (l.length : Int) := by omega
        by_cases hmn : m = n
        · have HN := Lib.hid ((H2.out hmn).trans hL.out)
          subst hmn
          go_wp2
          go_roundg (l.length - (k + 1))
          case measure => omega
          case rel => exact ⟨k + 1, L, by go_num, hkl, rfl, HN, by omega, hrow, hB⟩
        · have HN := Lib.hid ((H1.out hmn).trans (by rw [hL.out]))
          go_wp2_with (at_builtin; refine wpList_append_own _ rfl _ _ 22 rfl w2.heap.size 3 i0 (.int .i64 0) 1 8 Tryz.underlying22 hi hz0 hz1 hz2 rfl (by decide) _ _ _ rfl (hrow.alloc _) ⟨wr.heap.size, 0, none⟩ 1 1 [.int .i64 m] rfl rfl (cell_one_new _ _ _) (by simp [Value.oneCell']) (by unfold maxLen; omega) (by omega) (by have := hB.size; simp; omega) ?_; intro v5 w5 ho5 hg5 _)
          go_roundg (l.length - (k + 1))
          case measure => omega
          case rel => exact ⟨k + 1, L ++ [m], by go_num, hkl, rfl, HN, by rw [List.length_append]; simp; omega, vi_snoc ho5, below_append hB hB.size hrow hg5⟩
      · obtain rfl : k = l.length := by omega
        have hq := hL.out
        rw [List.take_of_length_le (Nat.le_refl _)] at hq
        have HQ := Lib.hid hq
        obtain ⟨A7, c7, rfl, _, _⟩ := own_form hrow
        clear hq hL
        by_cases hin : n ∈ l
        · have hlt := leave_in l n hin
          rw [HQ.out] at hlt
          have HJ := Lib.hid (HC1.out hin)
          have HR := Lib.hid (leaveRes_ok (l := l) (n := n) (by rw [HJ.out]))
          have hrs3 := HRS.out.below hB HRS.out.lt
          obtain ⟨y0, y1, _, _⟩ := HFB.out.below hB HFB.out.lt
          have b3 : ¬ (L.length : Int) = (l.length : Int) := by omega
          obtain ⟨t0, t1, t2⟩ := hrs3.rd (.int .i64 0) (.int .i64 (-1))
          have hb9 := HB2.out.trans (hB.mono HB2.out.size)
          have hb7 := (below_set2 hb9 (b := w.heap.size) (Nat.le_refl _) (.int .i64 0) (.int .i64 (-1))).drew
          have HR6 := Lib.hid ((((RdF.own hrow).set ⟨w.heap.size, 0, none⟩ HRS.out.lt (.int .i64 0)).set ⟨w.heap.size, 1, none⟩ HRS.out.lt (.int .i64 (-1))).less HB2.out.size)
          obtain ⟨d0, d1, f0, f1⟩ := hrs3
          clear hin hb9 hrow
          go_wp2
          go_region
          go_wp2
          refine bodyPost_ret (v := .tuple #[.slice A7 L.length c7, .agg #[.int .i64 0, .int .i64 (-1)]]) (by simp [results, Tryz.results17, go_sem, t0, t1, t2]) rfl ?_
          exact ⟨_, by rw [HJ.out], by rw [HR.out, HQ.out]; exact HR6.out, hb7⟩
        · have hle := leave_out l n hin
          rw [HQ.out] at hle
          subst hle
          have HJ := Lib.hid (HC2.out hin)
          have HR := Lib.hid (leaveRes_bad (l := L) (n := n) (by rw [HJ.out]; decide))
          have hb9 := HB2.out.trans (hB.mono HB2.out.size)
          have HB := Lib.hid hB
          clear hin hrow
          go_wp2_with fail
          refine (RBare_any 5 _).mono ?_
          rintro e w3 ⟨rfl, hb3⟩
          have hrs3 := (HRS.out.below HB.out HRS.out.lt).below hb3 (Nat.lt_of_lt_of_le HRS.out.lt HB.out.size)
          have hb4 := hb9.trans (hb3.mono hb9.size)
          obtain ⟨t0, t1, t2⟩ := hrs3.rd (.int .i64 5) (.int .i64 (-1))
          have hb7 := below_set2 hb4 (b := w.heap.size) (Nat.le_refl _) (.int .i64 5) (.int .i64 (-1))
          obtain ⟨d0, d1, f0, f1⟩ := hrs3
          clear hb3 hb4 hb9
          go_wp2
          refine bodyPost_ret (v := .tuple #[.slice none 0 0, .agg #[.int .i64 5, .int .i64 (-1)]]) (by simp [results, Tryz.results17, go_sem, t0, t1, t2]) rfl ?_
          exact ⟨_, by rw [HJ.out], by rw [HR.out]; exact RdF.nil _ _, hb7⟩
  · have HJ := Lib.hid (leaveErr_a (n := n) hz)
    have HR := Lib.hid (leaveRes_bad (l := l) (n := n) (by rw [HJ.out]; exact hz))
    have hpos := checkErr_pos l hz
    generalize hq : checkErr l = q at *
    have HQ := Lib.hid hq
    clear hz hq
    go_enter Tryz.func17, Tryz.ntmps17
    go_wp2_with fail
    generalize w.alloc (.cells #[.int .i64 0, .int .i64 0] 32) = w0 at *
    refine (RNodesFault_any _ l w0 HV.out hl).mono ?_
    rintro e w1 ⟨rfl, hb1⟩
    rw [HQ.out]
    have hfb := Box2.mk' w1 (.int .i64 q.1) (.int .i64 q.2) 32
    have hrs2 := (hrs.below hb1 hrs.lt).alloc (.cells #[.int .i64 q.1, .int .i64 q.2] 32)
    have hb2 := (hb0.trans (hb1.mono hb0.size)).alloc (Nat.le_trans hb0.size hb1.size) (.cells #[.int .i64 q.1, .int .i64 q.2] 32)
    have hb7 := (below_set2 hb2 (b := w.heap.size) (Nat.le_refl _) (.int .i64 q.1) (.int .i64 q.2)).drew
    obtain ⟨e0, e1, _, _⟩ := hfb
    obtain ⟨t0, t1, t2⟩ := hrs2.rd (.int .i64 q.1) (.int .i64 q.2)
    obtain ⟨d0, d1, f0, f1⟩ := hrs2
    have hzz : w1.heap.size < (w1.alloc (.cells #[.int .i64 q.1, .int .i64 q.2] 32)).heap.size := by simp
    clear hrs hb2
    go_wp2
    generalize w1.alloc (.cells #[.int .i64 q.1, .int .i64 q.2] 32) = w2 at *
    go_region
    go_wp2
    refine bodyPost_ret (v := .tuple #[.slice none 0 0, .agg #[.int .i64 q.1, .int .i64 q.2]]) (by simp [results, Tryz.results17, go_sem, t0, t1, t2]) rfl ?_
    exact ⟨_, by rw [HJ.out], by rw [HR.out]; exact RdF.nil _ _, hb7⟩
end Go.Proofs.YtpacalklcdlhoaaGreatDoor

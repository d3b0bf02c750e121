/- Walks of owner.Leave, Of. Condition: the sentinels that are read, and the library's tables, lie as named (SomeS, Tabs). -/
import Derived.Test.YtpacalklcdlhoaaGreatDoorOwnD
namespace Go.Proofs.YtpacalklcdlhoaaGreatDoor
open Go.RowKit Go.Lib Go.Sort

theorem idx_in (l : List Int) (n : Int) (h : n ∈ l) : 0 ≤ idxOf l n := by rw [idxOf_nonneg_iff]; simpa using h
theorem idx_out (l : List Int) (n : Int) (h : n ∉ l) : idxOf l n < 0 := by
  have := idxOf_nonneg_iff l n
  rcases Int.lt_or_le (idxOf l n) 0 with h1 | h1
  · exact h1
  · rw [this] at h1; exact absurd (by simpa using h1) h
set_option maxRecDepth 100000 in
set_option maxHeartbeats 1000000 in
theorem LeaveF_any (a : Nat → Addr) (v : Value) (l : List Int) (n : Int) (B : Nat) (w : World) (hv : Rd w B v (l.map VI')) (hl : l.length ≤ 2 ^ 40) (hB : B ≤ w.heap.size) (hs : SomeS [1, 4, 7] a w) :
    Calls Tryz.prog 16 #[v, .int .i64 n] w fun e w' => ∃ v' r, e = .returned (.tuple #[v', r]) ∧ EV a r (leaveErr l n).1 (leaveErr l n).2 w' ∧ RdF w.heap.size w' v' ((leaveRes l n).map VI') ∧ Below w.heap.size w w' := by
  have hb0 : Below w.heap.size w (w.alloc (.cells #[.int .i64 n] 3)) := (Below.refl _ w).alloc (Nat.le_refl _) _
  have hc0 : (w.alloc (.cells #[.int .i64 n] 3)).cell? ⟨w.heap.size, 0, none⟩ = some (.int .i64 n) := by rw [World.cell?_alloc_at _ _ _ _ rfl]; rfl
  have hz0 : w.heap.size < (w.alloc (.cells #[.int .i64 n] 3)).heap.size := by simp
  have HV := Lib.hid (hv.below (hb0.mono hB))
  have HS := Lib.hid (hs.below hb0)
  have HE0 := Lib.hid (oCheck_any a v l B _ (hv.below (hb0.mono hB)) (by omega) (hs.below hb0))
  clear hv hs
  by_cases h0 : (checkErr l).1 = 0
  · have hne := (checkErr_zero l h0).1
    have H0 := Lib.hid h0
    clear h0
    by_cases hin : n ∈ l
    · have HJ : Hid (leaveErr l n = (0, -1)) := Lib.hid (by unfold leaveErr; rw [if_neg (by rw [H0.out]; simp), if_pos hin])
      have hk := idx_in l n hin
      clear hin
      go_enter Tryz.func16, Tryz.ntmps16
      go_wp2_with fail
      generalize w.alloc (.cells #[.int .i64 n] 3) = w0 at *
      refine HE0.out.mono ?_
      rintro e w1 ⟨r, rfl, hr, hb⟩
      obtain ⟨rfl, _⟩ := hr.nil H0.out
      have c1 := (hb.cell (p := ⟨w.heap.size, 0, none⟩) hz0).trans hc0
      have HV1 := Lib.hid (HV.out.below (hb.mono (by omega)))
      have hb1 := hb0.trans (hb.mono hb0.size)
      have hz1 := Nat.lt_of_lt_of_le hz0 hb.size
      clear hr hb0 hc0 hb
      go_wp2_with (first | (go_at_call 43; refine (Index_any' v l n B _ HV1.out hl).mono ?_; rintro e w2 ⟨rfl, rfl⟩) | fail)
      refine (Clone_any v l B _ HV1.out hl).mono ?_
      rintro e w2 ⟨v2, rfl, ho2, hb2⟩
      have hdel := DeleteF_any w1.heap.size v2 l n w.heap.size w2 ho2 hz1 ((hb2.cell (p := ⟨w.heap.size, 0, none⟩) hz1).trans c1) hl hne
      have HD := Lib.hid hdel
      have hb3 := hb1.trans (hb2.mono hb1.size)
      clear hdel ho2 hb1 hb2
      go_wp2_with fail
      refine HD.out.mono ?_
      rintro e w3 ⟨v3, rfl, hr3, hb4⟩
      have HR := Lib.hid hr3
      have hb5 := hb3.trans (hb4.mono (by omega))
      clear hr3
      go_wp2
      go_ret2
      exact ⟨_, _, rfl, by rw [HJ.out]; exact EV.none _ _, by rw [leaveRes_ok (by rw [HJ.out])]; exact HR.out.less (Nat.le_of_lt hz1), hb5⟩
    · have HJ : Hid (leaveErr l n = (5, -1)) := Lib.hid (by unfold leaveErr; rw [if_neg (by rw [H0.out]; simp), if_neg hin])
      have hk := idx_out l n hin
      clear hin
      go_enter Tryz.func16, Tryz.ntmps16
      go_wp2_with fail
      generalize w.alloc (.cells #[.int .i64 n] 3) = w0 at *
      refine HE0.out.mono ?_
      rintro e w1 ⟨r, rfl, hr, hb⟩
      obtain ⟨rfl, _⟩ := hr.nil H0.out
      have c1 := (hb.cell (p := ⟨w.heap.size, 0, none⟩) hz0).trans hc0
      have HV1 := Lib.hid (HV.out.below (hb.mono (by omega)))
      have s4 : w1.cell? ⟨0, 0, none⟩ = some (sval a 4) := (HS.out.below hb) 4 (by simp)
      unfold sval at s4
      have hb1 := hb0.trans (hb.mono hb0.size)
      clear hr hb0 hc0 hb
      go_wp2_with (go_at_call 43; refine (Index_any' v l n B _ HV1.out hl).mono ?_; rintro e w2 ⟨rfl, rfl⟩)
      go_quiet (fail)
      go_wp2
      go_ret2
      exact ⟨_, _, rfl, by rw [HJ.out]; exact EV.sent a _ 4 (by decide), by rw [leaveRes_bad (by rw [HJ.out]; decide)]; exact RdF.nil _ _, below_drewN hb1 _⟩
  · have HJ : Hid (leaveErr l n = checkErr l) := Lib.hid (by unfold leaveErr; rw [if_pos h0])
    have H0 := Lib.hid h0
    clear h0
    go_enter Tryz.func16, Tryz.ntmps16
    go_wp2_with fail
    refine HE0.out.mono ?_
    rintro e w1 ⟨r, rfl, hr, hb⟩
    obtain ⟨T, p, rfl⟩ := hr.some H0.out
    have HR := Lib.hid hr
    have hb1 := hb0.trans (hb.mono hb0.size)
    clear hr
    go_wp2
    go_ret2
    exact ⟨_, _, rfl, by rw [HJ.out]; exact HR.out, by rw [leaveRes_bad (by rw [HJ.out]; exact H0.out)]; exact RdF.nil _ _, hb1⟩
theorem Leave_any (a : Nat → Addr) (v : Value) (l : List Int) (n : Int) (B : Nat) (w : World) (hv : Rd w B v (l.map VI')) (hl : l.length ≤ 2 ^ 40) (hB : B ≤ w.heap.size) (hs : SomeS [1, 4, 7] a w) :
    Calls Tryz.prog 16 #[v, .int .i64 n] w fun e w' => ∃ v' r, e = .returned (.tuple #[v', r]) ∧ EV a r (leaveErr l n).1 (leaveErr l n).2 w' ∧ Rd w' w'.heap.size v' ((leaveRes l n).map VI') ∧ Below w.heap.size w w' :=
  (LeaveF_any a v l n B w hv hl hB hs).mono fun _ _ ⟨v', r, h1, h2, h3, h4⟩ => ⟨v', r, h1, h2, h3.rd, h4⟩
end Go.Proofs.YtpacalklcdlhoaaGreatDoor

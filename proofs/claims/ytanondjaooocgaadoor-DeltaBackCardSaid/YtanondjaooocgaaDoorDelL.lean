/- Walk of the law DeltaBack. Condition: the two errors' variables hold interface values. -/
import Derived.Test.YtanondjaooocgaaDoorDelB
namespace Go.Proofs.YtanondjaooocgaaDoor
open Go.RowKit Go.Lib

theorem made_empty (s : ByteArray) (h : s.size = 0) (old : ByteArray) : made old s = [] := by
  have : s.data.toList = [] := List.eq_nil_of_length_eq_zero (by rw [← size_toList]; exact h)
  unfold made; rw [this]; rfl
theorem made_self (old : ByteArray) : opsSize (made old old) = 0 := made_known old old (fun _ h => h)
theorem made_tail (old : ByteArray) (j : Nat) (hj : j < (pieces old.data.toList).length) : opsSize (made old (old.extract (offs (pieces old.data.toList) (j + 1)) old.size)) = 0 := by
  refine made_known _ _ (fun p hp => ?_)
  have hx : (old.extract (offs (pieces old.data.toList) (j + 1)) old.size).data.toList = old.data.toList.drop (offs (pieces old.data.toList) (j + 1)) := by
    rw [extract_toList, List.take_of_length_le (by rw [← size_toList]; exact Nat.le_refl _)]
  rw [hx, show pieces (old.data.toList.drop (offs (pieces old.data.toList) (j + 1))) = (pieces old.data.toList).drop (j + 1) from (pieces_split _ j hj).1] at hp
  exact List.mem_of_mem_drop hp

set_option maxRecDepth 100000 in
set_option maxHeartbeats 4000000 in
theorem DeltaBack_some (old s : ByteArray) (at_ : Int) (ho : old.size ≤ 800) (hs : s.size ≤ 800) (T : TypeId) (pB pS : Value) (w : World) (hg : Gl T pB pS w) :
    Calls Tryd.prog 3 #[.string old, .string s, .int .i64 at_] w fun e w' => e = .returned (.bool true) ∧ Below w.heap.size w w' := by
  have hG := Lib.hid hg
  clear hg
  go_enter Tryd.func3, Tryd.ntmps3
  go_wp2_with fail
  refine (differs_any T pB pS _ hG.out).mono ?_
  rintro e W1 ⟨rfl, hb1⟩
  have hG1 := Lib.hid (hG.out.below hb1)
  go_wp2_with fail
  refine (DMake_made old s (by omega) (by omega) _).mono ?_
  rintro e W2 ⟨v2, rfl, hr2, hb2⟩
  have hG2 := Lib.hid (hG1.out.below hb2)
  have HR2 := Lib.hid (RdM.own hr2)
  go_wp2_with fail
  refine (DApply_made old s _ _ T pB pS _ (by omega) (by omega) HR2.out (Nat.le_refl _) hG2.out).mono ?_
  rintro e W3 ⟨rfl, hb3⟩
  have hG3 := Lib.hid (hG2.out.below hb3)
  have hsz := made_size old s
  go_wp2_with fail
  refine (DSize_made old s _ _ _ (by omega) (HR2.out.below hb3) hb3.size).mono ?_
  rintro e W4 ⟨rfl, hb4⟩
  have hG4 := Lib.hid (hG3.out.below hb4)
  have hsz1 : (opsSize (made old s) : Int) ≤ (s.size : Int) := by omega
  go_wp2_with fail
  refine (DMake_made old old (by omega) (by omega) _).mono ?_
  rintro e W5 ⟨v5, rfl, hr5, hb5⟩
  have hG5 := Lib.hid (hG4.out.below hb5)
  have HR5 := Lib.hid (RdM.own hr5)
  obtain ⟨A5, c5, rfl, _⟩ := own_form hr5
  go_wp2_with fail
  refine (DApply_made old old _ _ T pB pS _ (by omega) (by omega) HR5.out (Nat.le_refl _) hG5.out).mono ?_
  rintro e W6 ⟨rfl, hb6⟩
  have hG6 := Lib.hid (hG5.out.below hb6)
  go_wp2_with fail
  refine (DSize_made old old _ _ _ (by omega) (HR5.out.below hb6) hb6.size).mono ?_
  rintro e W7 ⟨rfl, hb7⟩
  have hG7 := Lib.hid (hG6.out.below hb7)
  rw [made_self]
  have b7 : Below w.heap.size w W7 := hb1.trans ((hb2.mono hb1.size).trans ((hb3.mono (by have := hb1.size; have := hb2.size; omega)).trans ((hb4.mono (by have := hb1.size; have := hb2.size; have := hb3.size; omega)).trans ((hb5.mono (by have := hb1.size; have := hb2.size; have := hb3.size; have := hb4.size; omega)).trans
    ((hb6.mono (by have := hb1.size; have := hb2.size; have := hb3.size; have := hb4.size; have := hb5.size; omega)).trans (hb7.mono (by have := hb1.size; have := hb2.size; have := hb3.size; have := hb4.size; have := hb5.size; have := hb6.size; omega)))))))
  have B7 := Lib.hid b7
  clear b7 hb1 hb2 hb3 hb4 hb5 hb6 hb7 hr2 hr5
  by_cases hlen : (made old old).length ≤ 1
  case' neg =>
    have hne : old.toList.isEmpty = false := by
      rw [ByteArray.toList_eq]
      cases h : old.data.toList with
      | nil =>
        have := made_empty old (by rw [size_toList, h]; rfl) old
        rw [this] at hlen; simp at hlen
      | cons a b => rfl
    have hlen2 : 1 < (made old old).length := by omega
    clear hlen
  all_goals
    go_wp2_with fail
    refine (CutsOf_any old (by omega) _).mono ?_
    rintro e W8 ⟨v8, rfl, hr8, hb8⟩
    have HR8 := Rd.own hr8
    obtain ⟨A8, c8, rfl, _, hd8⟩ := HR8
    rw [List.length_map]
    have B8 := Lib.hid (B7.out.trans (hb8.mono B7.out.size))
    clear hb8
    by_cases hneg : at_ < 0
    · clear hd8
      go_wp2
      go_ret
      exact ⟨rfl, B8.out⟩
    · by_cases hge : ((cuts old.data.toList).length : Int) ≤ at_
      · clear hd8
        go_wp2
        go_ret
        exact ⟨rfl, B8.out⟩
      · obtain ⟨j, rfl⟩ := Int.eq_ofNat_of_zero_le (show 0 ≤ at_ by omega)
        have hj : j < (cuts old.data.toList).length := by omega
        have hjp : j < (pieces old.data.toList).length := by rw [← cuts_length]; exact hj
        obtain ⟨g, o, rfl, hg, hc⟩ := hd8 (map_ne hj)
        have cc : W8.cell? ⟨g, o + j, none⟩ = some (.int .i64 (offs (pieces old.data.toList) (j + 1))) := by
          refine hc j _ ?_
          have hck := cuts_get old.data.toList j hjp
          rw [List.getElem?_map, hck]; rfl
        have hof := offs_le (pieces old.data.toList) (j + 1)
        rw [pieces_flatten, ← size_toList] at hof
        have HT := Lib.hid (made_tail old j hjp)
        clear hd8 hc hneg hge
        go_wp2_with fail
        refine (DMake_made old (old.extract (offs (pieces old.data.toList) (j + 1)) old.size) (by omega) (by simp; omega) _).mono ?_
        rintro e W9 ⟨v9, rfl, hr9, hb9⟩
        go_wp2_with fail
        refine (DSize_made old _ _ _ _ (by simp; omega) (RdM.own hr9) (Nat.le_refl _)).mono ?_
        rintro e W10 ⟨rfl, hb10⟩
        rw [HT.out]
        go_wp2
        go_ret
        exact ⟨rfl, B8.out.trans ((hb9.mono B8.out.size).trans (hb10.mono (Nat.le_trans B8.out.size hb9.size)))⟩

set_option maxRecDepth 100000 in
set_option maxHeartbeats 1000000 in
theorem DeltaBack_walk (old s : ByteArray) (at_ : Int) (ho : old.size ≤ maxLen) (hs : s.size ≤ maxLen) (T : TypeId) (pB pS : Value) (w : World) (hg : Gl T pB pS w) :
    Calls Tryd.prog 3 #[.string old, .string s, .int .i64 at_] w fun e w' => e = .returned (.bool true) ∧ Below w.heap.size w w' := by
  unfold maxLen at ho hs
  by_cases h1 : 800 < old.size
  · have hG := Lib.hid hg
    clear hg
    go_enter Tryd.func3, Tryd.ntmps3
    go_wp2_with (go_at_call 6; refine (differs_any T pB pS _ hG.out).mono ?_; rintro e W1 ⟨rfl, hb1⟩)
    go_ret
    exact ⟨rfl, hb1⟩
  · by_cases h2 : 800 < s.size
    · have hG := Lib.hid hg
      clear hg
      go_enter Tryd.func3, Tryd.ntmps3
      go_wp2_with (go_at_call 6; refine (differs_any T pB pS _ hG.out).mono ?_; rintro e W1 ⟨rfl, hb1⟩)
      go_ret
      exact ⟨rfl, hb1⟩
    · exact DeltaBack_some old s at_ (by omega) (by omega) T pB pS w hg
end Go.Proofs.YtanondjaooocgaaDoor

/- Walk of the law CutWhole at every text. No conditions. -/
import Derived.Test.YtanondjaooocgaaCutY
namespace Go.Proofs.Ytanondjaooocgaa
open Go.RowKit Go.Lib

set_option maxRecDepth 100000 in
set_option maxHeartbeats 2000000 in
theorem CutWhole_walk (s : ByteArray) (at_ : Int) (hs : s.size ≤ maxLen) (hat : (Lit.int .i64 at_).wf = true) (w : World) : Calls Try.prog 3 #[.string s, .int .i64 at_] w fun e w' => e = .returned (.bool true) ∧ Below w.heap.size w w' := by
  unfold maxLen at hs
  by_cases hbig : 1500 < s.size
  · clear hat
    go_enter Try.func3, Try.ntmps3
    go_wp2_with (go_at_call 5; refine (cutted_any _).mono ?_; rintro e W1 ⟨rfl, hb1⟩)
    go_ret
    exact ⟨rfl, hb1⟩
  · rcases Nat.eq_zero_or_pos s.size with h0 | h0
    · have hsl : s.data.toList = [] := List.eq_nil_of_length_eq_zero (by rw [← size_toList]; exact h0)
      have hse : s = ByteArray.empty := ba_ext hsl
      subst hse
      clear hat hbig h0
      have hp : pieces ByteArray.empty.data.toList = [] := rfl
      have hc : cuts ByteArray.empty.data.toList = [] := rfl
      go_enter Try.func3, Try.ntmps3
      go_wp2_with (go_at_call 5; refine (cutted_any _).mono ?_; rintro e W1 ⟨rfl, hb1⟩)
      refine (Cuts_any ByteArray.empty (by decide) _).mono ?_
      rintro e W2 ⟨v2, rfl, hr2, hb2⟩
      go_wp2_with fail
      refine (Pieces_any ByteArray.empty (by decide) _).mono ?_
      rintro e W3 ⟨v3, rfl, hr3, hb3⟩
      obtain ⟨A2, c2, rfl, _⟩ := ((Rd.own hr2).below hb3).more hb3.size
      obtain ⟨A3, c3, rfl, _⟩ := Rd.own hr3
      simp only [hp, hc, List.map_nil, List.length_nil]
      go_wp2
      go_rounds 1
      all_goals
        go_ret
        exact ⟨rfl, hb1.trans ((hb2.mono hb1.size).trans (hb3.mono (Nat.le_trans hb1.size hb2.size)))⟩
    · exact CutWhole_some s at_ (by omega) h0 w
end Go.Proofs.Ytanondjaooocgaa

/- Walks of the laws CutTells and of the closed fact 'cutted'. No conditions. -/
import Derived.Test.YtanondjaooocgaaCutL
namespace Go.Proofs.Ytanondjaooocgaa
open Go.RowKit Go.Lib

theorem map_VZ (l : List Nat) : (l.map fun (n : Nat) => (n : Int)).map VZ = l.map VI := by rw [List.map_map]; rfl
theorem cutsZ_inj {a b : List Nat} : ((a.map fun (n : Nat) => (n : Int)) = b.map fun (n : Nat) => (n : Int)) ↔ a = b :=
  ⟨fun h => (List.map_inj_right (fun x y hxy => by omega)).1 h, fun h => by rw [h]⟩

theorem seventy : cuts (List.replicate 70 97) = [64, 70] := by decide +kernel

theorem Cuts70 (s : ByteArray) (h : s.data.toList = List.replicate 70 97) (w : World) :
    Calls Try.prog 6 #[.string s] w fun e W' => ∃ v, e = .returned v ∧ W'.ownsRow w.heap.size 3 1 v 2 [VI 64, VI 70] ∧ Below w.heap.size w W' := by
  have hz : s.size = 70 := by rw [size_toList, h]; rfl
  refine (Cuts_any s (by omega) w).mono ?_
  rintro e W1 ⟨v1, rfl, hr1, hb1⟩
  rw [h, seventy] at hr1
  exact ⟨v1, rfl, hr1, hb1⟩

set_option maxRecDepth 100000 in
set_option maxHeartbeats 1000000 in
theorem cutted_any (w : World) : Calls Try.prog 5 #[] w fun e w' => e = .returned (.bool true) ∧ Below w.heap.size w w' := by
  go_enter Try.func5, Try.ntmps5
  go_wp2_with fail
  refine (Cuts70 _ (by decide +kernel) _).mono ?_
  rintro e W1 ⟨v1, rfl, hr1, hb1⟩
  have hrd : Rd W1 W1.heap.size v1 (([64, 70] : List Int).map VZ) := Rd.own hr1
  go_wp2_with fail
  have hrd2 : Rd (W1.alloc (.cells #[.int .i64 64, .int .i64 70] 3)) (W1.heap.size + 1) v1 (([64, 70] : List Int).map VZ) := (hrd.below ((Below.refl _ _).alloc (Nat.le_refl _) _)).more (Nat.le_succ _)
  have hrd3 : Rd (W1.alloc (.cells #[.int .i64 64, .int .i64 70] 3)) (W1.heap.size + 1) (.slice (some ⟨W1.heap.size, 0, none⟩) 2 2) (([64, 70] : List Int).map VZ) := by
    refine ⟨_, _, rfl, Nat.le_refl _, fun _ => ⟨_, _, rfl, Nat.lt_succ_self _, fun k u hu => ?_⟩⟩
    match k, hu with
    | 0, hu => simp at hu; subst hu; simp [go_sem]
    | 1, hu => simp at hu; subst hu; simp [go_sem]
    | k + 2, hu => simp at hu
  refine (SameInts_any _ _ [64, 70] [64, 70] _ _ hrd2 hrd3 (by decide) (by decide)).mono ?_
  rintro e W2 ⟨rfl, n, rfl⟩
  go_wp2
  go_ret
  exact ⟨by simp, below_drewN (hb1.trans ((Below.refl _ _).alloc hb1.size _)) _⟩

set_option maxRecDepth 100000 in
set_option maxHeartbeats 2000000 in
theorem CutTells_walk (s : ByteArray) (hs : s.size ≤ maxLen) (w : World) : Calls Try.prog 4 #[.string s] w fun e w' => e = .returned (.bool true) ∧ Below w.heap.size w w' := by
  unfold maxLen at hs
  by_cases hbig : 1500 < s.size
  · go_enter Try.func4, Try.ntmps4
    go_wp2_with (go_at_call 5; refine (cutted_any _).mono ?_; rintro e W1 ⟨rfl, hb1⟩)
    go_ret
    exact ⟨rfl, hb1⟩
  · have hs40 : s.size ≤ 2 ^ 40 := by omega
    have hcl : (cuts s.data.toList).length ≤ 2 ^ 62 := by
      rw [cuts_length]; have := pieces_length_le s.data.toList; rw [← size_toList] at this; omega
    have hpl : (pieces s.data.toList).length ≤ 2 ^ 62 := by rw [← cuts_length]; exact hcl
    generalize hC : cuts s.data.toList = C at *
    generalize hP : pieces s.data.toList = P at *
    have HC := Lib.hid hC
    have HP := Lib.hid hP
    clear hC hP
    go_enter Try.func4, Try.ntmps4
    go_wp2_with (first | (go_at_call 5; refine (cutted_any _).mono ?_; rintro e W1 ⟨rfl, hb1⟩) | fail)
    refine (Cuts_any s hs40 _).mono ?_
    rintro e W2 ⟨v2, rfl, hr2, hb2⟩
    go_wp2_with fail
    refine (CutsOf_any s hs40 _).mono ?_
    rintro e W3 ⟨v3, rfl, hr3, hb3⟩
    rw [HC.out] at hr2 hr3
    rw [← map_VZ] at hr2 hr3
    go_wp2_with fail
    refine (SameInts_any _ _ _ _ _ _ (((Rd.own hr2).below hb3).more hb3.size) (Rd.own hr3) (by simpa using hcl) (by simpa using hcl)).mono ?_
    rintro e W4 ⟨rfl, m, rfl⟩
    go_wp2_with fail
    refine (Pieces_any s hs40 _).mono ?_
    rintro e W5 ⟨v5, rfl, hr5, hb5⟩
    go_wp2_with fail
    refine (PiecesOf_any s hs40 _).mono ?_
    rintro e W6 ⟨v6, rfl, hr6, hb6⟩
    rw [HP.out] at hr5 hr6
    go_wp2_with fail
    refine (SameTexts_any _ _ _ _ _ _ (((Rd.own hr5).below hb6).more hb6.size) (Rd.own hr6) hpl hpl).mono ?_
    rintro e W7 ⟨rfl, m', rfl⟩
    go_wp2
    go_ret
    have b1 := hb1.trans (hb2.mono hb1.size)
    have b2 := b1.trans (hb3.mono b1.size)
    have b3 : Below w.heap.size w W5 := (below_drewN b2 m).trans (hb5.mono b2.size)
    have b4 := b3.trans (hb6.mono b3.size)
    exact ⟨by simp, below_drewN b4 _⟩
end Go.Proofs.Ytanondjaooocgaa

/- Walks of the reference's Table: Ask, Clients. No conditions but bounds. -/
import Derived.Test.YtpacalklcdlhoaaDoorRefG
namespace Go.Proofs.YtpacalklcdlhoaaDoor
open Go.RowKit Go.Lib

theorem RFind_hit (rb base : Nat) (v : Value) (L : Tb) (hL : L.length ≤ 2 ^ 40) (t : ByteArray) (w : World) (h : RTab rb base v L w) (k : Nat) (hk : k < L.length) (he : L[k].1 = t.data.toList) (hno : ∀ j (hj : j < L.length), j < k → L[j].1 ≠ t.data.toList) :
    Calls Tryd.prog 72 #[.pointer (some ⟨rb, 0, none⟩), .string t] w fun e w' => e = .returned (.int .i64 k) ∧ w = w' := by
  refine (RFind_any rb base v L hL t w h).mono fun e w' hp => ?_
  obtain ⟨hw, ⟨k', hk', he', hno', rfl⟩ | ⟨hno', rfl⟩⟩ := hp
  · have : k' = k := by
      rcases Nat.lt_trichotomy k' k with h1 | h1 | h1
      · exact absurd he' (hno k' hk' h1)
      · exact h1
      · exact absurd he (hno' k hk h1)
    subst this
    exact ⟨rfl, hw⟩
  · exact absurd he (hno' k hk)
theorem RFind_miss (rb base : Nat) (v : Value) (L : Tb) (hL : L.length ≤ 2 ^ 40) (t : ByteArray) (w : World) (h : RTab rb base v L w) (hno : ∀ j (hj : j < L.length), L[j].1 ≠ t.data.toList) :
    Calls Tryd.prog 72 #[.pointer (some ⟨rb, 0, none⟩), .string t] w fun e w' => e = .returned (.int .i64 (-1)) ∧ w = w' := by
  refine (RFind_any rb base v L hL t w h).mono fun e w' hp => ?_
  obtain ⟨hw, ⟨k', hk', he', hno', rfl⟩ | ⟨hno', rfl⟩⟩ := hp
  · exact absurd he' (hno k' hk')
  · exact ⟨rfl, hw⟩
theorem first_or (L : Tb) (t : TbB) : (∃ (k : Nat) (hk : k < L.length), L[k].1 = t ∧ ∀ j (hj : j < L.length), j < k → L[j].1 ≠ t) ∨ ∀ j (hj : j < L.length), L[j].1 ≠ t := by
  induction L with
  | nil => exact .inr fun j hj => absurd hj (by simp)
  | cons y r ih =>
    by_cases hy : y.1 = t
    · exact .inl ⟨0, by simp, hy, fun j _ h => absurd h (Nat.not_lt_zero _)⟩
    · rcases ih with ⟨k, hk, he, hno⟩ | hno
      · refine .inl ⟨k + 1, Nat.succ_lt_succ hk, he, fun j hj h => ?_⟩
        cases j with
        | zero => exact hy
        | succ j => exact hno j (Nat.lt_of_succ_lt_succ hj) (Nat.lt_of_succ_lt_succ h)
      · refine .inr fun j hj => ?_
        cases j with
        | zero => exact hy
        | succ j => exact hno j (Nat.lt_of_succ_lt_succ hj)
/-- what asking the reference answers -/
def askR (L : Tb) (t : TbB) (n : Int) : Value :=
  if isName t = false then .tuple #[.string ⟨#[]⟩, .bool false, .int .i64 4]
  else if (getL L t).isSome = true ∧ n = ((getL L t).getD (0, [])).1 then .tuple #[.string (bs ((getL L t).getD (0, [])).2), .bool true, .int .i64 0]
  else if n ≠ wrap64 (((getL L t).getD (0, [])).1 + 1) then .tuple #[.string ⟨#[]⟩, .bool false, .int .i64 8] else .tuple #[.string ⟨#[]⟩, .bool false, .int .i64 0]
set_option maxRecDepth 100000 in
set_option maxHeartbeats 1000000 in
theorem RTAsk_any (rb base : Nat) (v : Value) (L : Tb) (hL : L.length ≤ 2 ^ 40) (t : ByteArray) (ht : t.size ≤ 9223372036854775807) (n : Int) (w : World) (h : RTab rb base v L w) :
    Calls Tryd.prog 43 #[.pointer (some ⟨rb, 0, none⟩), .string t, .int .i64 n] w fun e w' => e = .returned (askR L t.data.toList n) ∧ w = w' := by
  have HR := Lib.hid h
  have HL := Lib.hid hL
  have c0 := h.cell
  have hrow := h.row
  obtain ⟨A, c, rfl, hc⟩ := h.form
  have HC := Lib.hid hc
  clear hc h hrow hL
  cases hN : isName t.data.toList with
  | false =>
    have HJ : Hid (askR L t.data.toList n = .tuple #[.string ⟨#[]⟩, .bool false, .int .i64 4]) := Lib.hid (if_pos hN)
    have HN := Lib.hid hN
    clear hN
    go_enter Tryd.func43, Tryd.ntmps43
    go_wp2_with fail
    refine (RIsName_any t ht w).mono ?_
    rintro e w1 ⟨rfl, rfl⟩
    rw [HN.out]
    go_wp2
    go_ret3
    exact ⟨by rw [HJ.out]; rfl, rfl⟩
  | true =>
    have hnf : ¬ isName t.data.toList = false := by rw [hN]; simp
    have HN := Lib.hid hN
    clear hN
    rcases first_or L t.data.toList with ⟨k, hk, he, hno⟩ | hno
    · have hgl := getL_at hk he hno
      have FIND := Lib.hid (RFind_hit rb base _ L HL.out t w HR.out k hk he hno)
      obtain ⟨g, rfl, hcells⟩ := HC.out (by omega)
      obtain ⟨c1, c2, c3⟩ := hcells k hk
      have b1 : (0 : Int) ≤ (k : Int) := by omega
      have b2 : (k : Int) < (L.length : Int) := by omega
      clear hcells he hno
      by_cases hn : n = L[k].2.1
      · have hni : (n == L[k].2.1) = true := by rw [hn]; simp
        have HJ : Hid (askR L t.data.toList n = .tuple #[.string (bs L[k].2.2), .bool true, .int .i64 0]) := Lib.hid (by unfold askR; rw [hgl]; exact (if_neg hnf).trans (if_pos ⟨rfl, hn⟩))
        clear hgl hn hnf
        go_enter Tryd.func43, Tryd.ntmps43
        go_wp2_with fail
        refine (RIsName_any t ht w).mono ?_
        rintro e w1 ⟨rfl, rfl⟩
        rw [HN.out]
        go_wp2_with fail
        refine (FIND.out).mono ?_
        rintro e w1 ⟨rfl, rfl⟩
        go_wp2
        go_ret3
        exact ⟨by rw [HJ.out]; rfl, rfl⟩
      · have hni : (n == L[k].2.1) = false := by simpa using hn
        by_cases hw : n = wrap64 (L[k].2.1 + 1)
        · have hwi : (n != wrap64 (L[k].2.1 + 1)) = false := by rw [hw]; simp
          have HJ : Hid (askR L t.data.toList n = .tuple #[.string ⟨#[]⟩, .bool false, .int .i64 0]) := Lib.hid (by unfold askR; rw [hgl]; exact (if_neg hnf).trans ((if_neg (fun h => hn h.2)).trans (if_neg (not_not_intro hw))))
          clear hgl hn hnf hw
          go_enter Tryd.func43, Tryd.ntmps43
          go_wp2_with fail
          refine (RIsName_any t ht w).mono ?_
          rintro e w1 ⟨rfl, rfl⟩
          rw [HN.out]
          go_wp2_with fail
          refine (FIND.out).mono ?_
          rintro e w1 ⟨rfl, rfl⟩
          go_wp2
          go_ret3
          exact ⟨by rw [HJ.out]; rfl, rfl⟩
        · have hwi : (n != wrap64 (L[k].2.1 + 1)) = true := by simpa using hw
          have HJ : Hid (askR L t.data.toList n = .tuple #[.string ⟨#[]⟩, .bool false, .int .i64 8]) := Lib.hid (by unfold askR; rw [hgl]; exact (if_neg hnf).trans ((if_neg (fun h => hn h.2)).trans (if_pos hw)))
          clear hgl hn hnf hw
          go_enter Tryd.func43, Tryd.ntmps43
          go_wp2_with fail
          refine (RIsName_any t ht w).mono ?_
          rintro e w1 ⟨rfl, rfl⟩
          rw [HN.out]
          go_wp2_with fail
          refine (FIND.out).mono ?_
          rintro e w1 ⟨rfl, rfl⟩
          go_wp2
          go_ret3
          exact ⟨by rw [HJ.out]; rfl, rfl⟩
    · have hgl := getL_none hno
      have FIND := Lib.hid (RFind_miss rb base _ L HL.out t w HR.out hno)
      clear hno
      have h01 : wrap64 (0 + 1) = 1 := by unfold wrap64; rfl
      by_cases hw : n = 1
      · have hwi : (n != 1) = false := by rw [hw]; rfl
        have HJ : Hid (askR L t.data.toList n = .tuple #[.string ⟨#[]⟩, .bool false, .int .i64 0]) := Lib.hid (by unfold askR; rw [hgl]; exact (if_neg hnf).trans ((if_neg (fun h => absurd h.1 (by simp))).trans (if_neg (not_not_intro (hw.trans h01.symm)))))
        clear hgl hnf hw h01
        go_enter Tryd.func43, Tryd.ntmps43
        go_wp2_with fail
        refine (RIsName_any t ht w).mono ?_
        rintro e w1 ⟨rfl, rfl⟩
        rw [HN.out]
        go_wp2_with fail
        refine (FIND.out).mono ?_
        rintro e w1 ⟨rfl, rfl⟩
        go_wp2
        go_ret3
        exact ⟨by rw [HJ.out]; rfl, rfl⟩
      · have hwi : (n != 1) = true := by simpa using hw
        have HJ : Hid (askR L t.data.toList n = .tuple #[.string ⟨#[]⟩, .bool false, .int .i64 8]) := Lib.hid (by unfold askR; rw [hgl]; exact (if_neg hnf).trans ((if_neg (fun h => absurd h.1 (by simp))).trans (if_pos (fun h => hw (h.trans h01)))))
        clear hgl hnf hw h01
        go_enter Tryd.func43, Tryd.ntmps43
        go_wp2_with fail
        refine (RIsName_any t ht w).mono ?_
        rintro e w1 ⟨rfl, rfl⟩
        rw [HN.out]
        go_wp2_with fail
        refine (FIND.out).mono ?_
        rintro e w1 ⟨rfl, rfl⟩
        go_wp2
        go_ret3
        exact ⟨by rw [HJ.out]; rfl, rfl⟩
end Go.Proofs.YtpacalklcdlhoaaDoor

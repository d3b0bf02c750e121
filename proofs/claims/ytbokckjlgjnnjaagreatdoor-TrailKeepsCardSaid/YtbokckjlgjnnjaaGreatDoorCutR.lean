/- Walks of the reference's cutting (PiecesOf, CutsOf) and of SameInts, SameTexts. Condition: at most 2^40 bytes. -/
import Derived.Test.YtbokckjlgjnnjaaGreatDoorCutB
namespace Go.Proofs.YtbokckjlgjnnjaaGreatDoor
open Go.RowKit Go.Lib

/-- pieces found behind k bytes, a piece having begun at f -/
def Done (L : Bytes) (done : List Bytes) (f k : Nat) : Prop := done ++ pcs ((L.take k).drop f) (L.drop k) = pieces L
theorem done_hit {L : Bytes} {done : List Bytes} {f k : Nat} (h : Done L done f k) (hf : f ≤ k) (hk : k < L.length) (he : endsB ((L.take (k + 1)).drop f) = true ∨ k + 1 = L.length) :
    Done L (done ++ [(L.take (k + 1)).drop f]) (k + 1) (k + 1) := by
  unfold Done at h ⊢
  rw [← h, List.drop_eq_getElem_cons hk, pcs_cons, ← cur_succ L f k hf hk, List.append_assoc, drop_take_self]
  by_cases hb : endsB ((L.take (k + 1)).drop f) = true
  · rw [if_pos hb]; rfl
  · have hl := he.resolve_left hb
    have hd : L.drop (k + 1) = [] := List.drop_eq_nil_of_le (by omega)
    rw [if_neg hb, if_pos hd, hd]; rfl
theorem done_miss {L : Bytes} {done : List Bytes} {f k : Nat} (h : Done L done f k) (hf : f ≤ k) (hk : k + 1 < L.length) (he : endsB ((L.take (k + 1)).drop f) = false) :
    Done L done f (k + 1) := by
  have hk' : k < L.length := by omega
  unfold Done at h ⊢
  rw [← h, List.drop_eq_getElem_cons hk', pcs_cons, ← cur_succ L f k hf hk', if_neg (by rw [he]; simp), if_neg (by intro h0; have := congrArg List.length h0; simp at this; omega)]
theorem done_end {L : Bytes} {done : List Bytes} {f : Nat} (h : Done L done f L.length) : done = pieces L := by
  unfold Done at h
  rw [← h, List.drop_eq_nil_of_le (Nat.le_refl _)]; simp [pcs]
theorem done_len {L : Bytes} {done : List Bytes} {f k : Nat} (h : Done L done f k) : done.length ≤ L.length := by
  have := pieces_length_le L
  unfold Done at h
  rw [← h, List.length_append] at this
  omega
/-- the sum of the last eight bytes of a piece of sixteen bytes or more -/
theorem sum8_cur (L : Bytes) (f k : Nat) (hk : k < L.length) (hn : 16 ≤ k + 1 - f) : sum8 ((L.take (k + 1)).drop f) = (((L.drop (k - 7)).take 8).map (·.toNat)).sum := by
  unfold sum8
  rw [cur_length L f (k + 1) (by omega), List.drop_drop, show f + (k + 1 - f - 8) = k - 7 from by omega, List.drop_take, show k + 1 - (k - 7) = 8 from by omega]
def part8 (L : Bytes) (k j : Nat) : Nat := (((L.drop (k - 7)).take j).map (·.toNat)).sum
theorem part8_zero (L : Bytes) (k : Nat) : part8 L k 0 = 0 := by simp [part8]
theorem part8_succ (s : ByteArray) (k j : Nat) (h : k - 7 + j < s.size) : part8 s.data.toList k (j + 1) = part8 s.data.toList k j + s[k - 7 + j].toNat := by
  unfold part8
  have hl : j < (s.data.toList.drop (k - 7)).length := by rw [List.length_drop, ← size_toList]; omega
  rw [List.take_succ_eq_append_getElem hl, List.map_append, List.sum_append]
  simp only [List.map_cons, List.map_nil, List.sum_cons, List.sum_nil, Nat.add_zero, List.getElem_drop]
  rfl
theorem part8_step (s : ByteArray) (k m : Nat) (h1 : k - 7 ≤ m) (hm : m < s.size) : part8 s.data.toList k (m + 1 - (k - 7)) = part8 s.data.toList k (m - (k - 7)) + s[m].toNat := by
  have h := part8_succ s k (m - (k - 7)) (by omega)
  rw [show m + 1 - (k - 7) = m - (k - 7) + 1 from by omega, h]
  simp only [show k - 7 + (m - (k - 7)) = m from by omega]
theorem part8_le (L : Bytes) (k j : Nat) (hj : j ≤ 8) : part8 L k j ≤ 2040 := by
  have key : ∀ l : Bytes, (l.map (·.toNat)).sum ≤ 255 * l.length := by
    intro l
    induction l with
    | nil => simp
    | cons b l ih => have := b.toNat_lt; simp only [List.map_cons, List.sum_cons, List.length_cons]; omega
  have h1 := key ((L.drop (k - 7)).take j)
  have h2 : ((L.drop (k - 7)).take j).length ≤ j := List.length_take_le _ _
  unfold part8
  omega

theorem rel_hit {w1 : World} {base f k : Nat} {s : ByteArray} {v' : Value} {done : List Bytes} (h : w1.ownsRow base 9 1 v' (done.length + 1) (done.map VS ++ [.string (s.extract f (k + 1))])) :
    w1.ownsRow base 9 1 v' (done ++ [(s.data.toList.take (k + 1)).drop f]).length ((done ++ [(s.data.toList.take (k + 1)).drop f]).map VS) := by
  rw [List.length_append, List.map_append, List.map_cons, List.map_nil, VS, ← extract_bs]; exact h

set_option maxRecDepth 100000 in
set_option maxHeartbeats 4000000 in
theorem PiecesOf_any (s : ByteArray) (hs : s.size ≤ 2 ^ 40) (w : World) :
    Calls Tryz.prog 60 #[.string s] w fun e W' => ∃ v, e = .returned v ∧ W'.ownsRow w.heap.size 9 1 v (pieces s.data.toList).length ((pieces s.data.toList).map VS) ∧ Below w.heap.size w W' := by
  obtain ⟨i0, hi, hz0, hz1, hz2⟩ := info_parts info_string
  have HZ := Lib.hid (size_toList s)
  go_enter Tryz.func60, Tryz.ntmps60
  go_wp2
  go_loopw [3, 4, 5] (fun vo vf vi wr => ∃ (f k : Nat) (done : List Bytes), vf = .int .i64 f ∧ vi = .int .i64 k ∧ f ≤ k ∧ k ≤ s.size ∧ k - f < 64 ∧ Hid (Done s.data.toList done f k) ∧ wr.ownsRow w.heap.size 9 1 vo done.length (done.map VS) ∧ Below w.heap.size w wr)
    (fun _ _ vi _ => s.size - (RowKit.intOf vi).toNat)
  case atStart => exact ⟨0, 0, [], rfl, rfl, Nat.le_refl _, Nat.zero_le _, by omega, rfl, World.ownsRow_nil _ _ _ _, Below.refl _ _⟩
  case round =>
    obtain ⟨f, k, done, rfl, rfl, hfk, hk, h64, hd, hrow, hB⟩ := hrel
    by_cases hlt : k < s.size
    · by_cases hn : k + 1 - f < 16
      · have hb : endsB ((s.data.toList.take (k + 1)).drop f) = false := by
          unfold endsB; rw [cur_length _ _ _ (by rw [← HZ.out]; omega), if_neg (by omega), if_pos hn]
        have HB := Lib.hid hb
        clear hb
        have hlen := done_len hd.out
        rw [← HZ.out] at hlen
        by_cases hl : k + 1 = s.size
        · have HD := Lib.hid (done_hit hd.out hfk (by rw [← HZ.out]; exact hlt) (.inr (by rw [← HZ.out]; exact hl)))
          have HL := Lib.hid hl
          have hl1 : (k : Int) = (s.size : Int) - 1 := by omega
          have HL1 := Lib.hid (beq_iff_eq.2 hl1)
          have hl2 : ((k : Int) == (s.size : Int) - 1) = true := HL1.out
          clear hl hl1 HL1
          go_wp2
          refine wp_loop_rounds 1 ?_
          rw [rounds_succ]
          go_wp2_with (at_builtin; refine wpList_append_own _ rfl _ _ 40 rfl w.heap.size 9 i0 (.string ByteArray.empty) 1 16 Tryz.underlying40 hi hz0 hz1 hz2 rfl (by decide) _ _ _ rfl (hrow.alloc _) ⟨wr.heap.size, 0, none⟩ 1 1 [.string (s.extract f (k + 1))] rfl rfl (cell_one_new _ _ _) (by simp [Value.oneCell']) (by unfold maxLen; omega) (by omega) (by have := hB.size; simp; omega) ?_; intro v' w1 hown' hgrow _)
          go_roundw
          case rel => exact ⟨k + 1, k + 1, _, by go_num, by go_num, Nat.le_refl _, by omega, by omega, HD, rel_hit hown', below_append hB hB.size hrow hgrow⟩
          case measure => simp [RowKit.intOf]; omega
        · have HD := Lib.hid (done_miss hd.out hfk (by rw [← HZ.out]; omega) HB.out)
          have hl2 : ((k : Int) == (s.size : Int) - 1) = false := by rw [beq_eq_false_iff_ne]; omega
          go_wp2
          refine wp_loop_rounds 1 ?_
          rw [rounds_succ]
          go_wp2
          go_roundw
          case rel => exact ⟨f, k + 1, done, rfl, by go_num, by omega, by omega, by omega, HD, hrow, hB⟩
          case measure => simp [RowKit.intOf]; omega
      · have hlen := done_len hd.out
        rw [← HZ.out] at hlen
        go_wp2
        have hS8 := sum8_cur s.data.toList f k (by rw [← HZ.out]; exact hlt) (by omega)
        obtain ⟨wo, rfl⟩ : ∃ wo : World, wo = wr := ⟨_, rfl⟩
        go_loopw [7, 8] (fun vs vk wx => ∃ m : Nat, k - 7 ≤ m ∧ m ≤ k + 1 ∧ vs = .int .i64 (part8 s.data.toList k (m - (k - 7))) ∧ vk = .int .i64 m ∧ wx = wo) (fun _ vk _ => (k + 1 - (RowKit.intOf vk)).toNat)
        case atStart => exact ⟨k - 7, Nat.le_refl _, by omega, by rw [Nat.sub_self, part8_zero]; rfl, by congr 1; omega, rfl⟩
        case round =>
          obtain ⟨m, hm1, hm2, rfl, rfl, rfl⟩ := hrel
          have hp8 := part8_le s.data.toList k (m - (k - 7)) (by omega)
          by_cases hm : m ≤ k
          · have HP := Lib.hid (part8_step s k m hm1 (by omega))
            have hb := (s[m]'(by omega)).toNat_lt
            go_wp2
            go_roundw
            case rel => exact ⟨m + 1, by omega, by omega, by rw [HP.out, Int.natCast_add], by go_num, trivial⟩
            case measure => simp [RowKit.intOf]; omega
          · obtain rfl : m = k + 1 := by omega
            have hE : endsB ((s.data.toList.take (k + 1)).drop f) = if 64 ≤ k + 1 - f then true else part8 s.data.toList k (k + 1 - (k - 7)) % 16 == 15 := by
              unfold endsB
              rw [cur_length _ _ _ (by rw [← HZ.out]; omega), hS8, show k + 1 - (k - 7) = 8 from by omega]
              by_cases h : 64 ≤ k + 1 - f
              · rw [if_pos h, if_pos h]
              · rw [if_neg h, if_neg h, if_neg hn]; rfl
            clear hS8
            generalize part8 s.data.toList k (k + 1 - (k - 7)) = S at *
            have HE := Lib.hid hE
            clear hE
            by_cases h64' : k + 1 - f = 64
            · have HD := Lib.hid (done_hit hd.out hfk (by rw [← HZ.out]; exact hlt) (.inl (by rw [HE.out, if_pos (by omega)])))
              have q1 : ((k : Int) + 1 - f == 64) = true := by rw [beq_iff_eq]; omega
              have H6 := Lib.hid h64'
              clear h64'
              go_wp2_with (at_builtin; refine wpList_append_own _ rfl _ _ 40 rfl w.heap.size 9 i0 (.string ByteArray.empty) 1 16 Tryz.underlying40 hi hz0 hz1 hz2 rfl (by decide) _ _ _ rfl (hrow.alloc _) ⟨wr.heap.size, 0, none⟩ 1 1 [.string (s.extract f (k + 1))] rfl rfl (cell_one_new _ _ _) (by simp [Value.oneCell']) (by unfold maxLen; omega) (by omega) (by have := hB.size; simp; omega) ?_; intro v' w1 hown' hgrow _)
              go_roundw
              case rel => exact ⟨k + 1, k + 1, _, by go_num, by go_num, Nat.le_refl _, by omega, by omega, HD, rel_hit hown', below_append hB hB.size hrow hgrow⟩
              case measure => simp [RowKit.intOf]; omega
            · have q1 : ((k : Int) + 1 - f == 64) = false := by rw [beq_eq_false_iff_ne]; omega
              by_cases h15 : S % 16 = 15
              · have HD := Lib.hid (done_hit hd.out hfk (by rw [← HZ.out]; exact hlt) (.inl (by rw [HE.out, if_neg (by omega), h15]; rfl)))
                have q2 : ((S : Int) % 16 == 15) = true := by rw [beq_iff_eq]; omega
                have H5 := Lib.hid h15
                clear h15
                go_wp2_with (at_builtin; refine wpList_append_own _ rfl _ _ 40 rfl w.heap.size 9 i0 (.string ByteArray.empty) 1 16 Tryz.underlying40 hi hz0 hz1 hz2 rfl (by decide) _ _ _ rfl (hrow.alloc _) ⟨wr.heap.size, 0, none⟩ 1 1 [.string (s.extract f (k + 1))] rfl rfl (cell_one_new _ _ _) (by simp [Value.oneCell']) (by unfold maxLen; omega) (by omega) (by have := hB.size; simp; omega) ?_; intro v' w1 hown' hgrow _)
                go_roundw
                case rel => exact ⟨k + 1, k + 1, _, by go_num, by go_num, Nat.le_refl _, by omega, by omega, HD, rel_hit hown', below_append hB hB.size hrow hgrow⟩
                case measure => simp [RowKit.intOf]; omega
              · have q2 : ((S : Int) % 16 == 15) = false := by rw [beq_eq_false_iff_ne]; omega
                by_cases hl : k + 1 = s.size
                · have HD := Lib.hid (done_hit hd.out hfk (by rw [← HZ.out]; exact hlt) (.inr (by rw [← HZ.out]; exact hl)))
                  have HL := Lib.hid hl
                  have hl2 : ((k : Int) == (s.size : Int) - 1) = true := by rw [beq_iff_eq]; omega
                  clear hl
                  go_wp2_with (at_builtin; refine wpList_append_own _ rfl _ _ 40 rfl w.heap.size 9 i0 (.string ByteArray.empty) 1 16 Tryz.underlying40 hi hz0 hz1 hz2 rfl (by decide) _ _ _ rfl (hrow.alloc _) ⟨wr.heap.size, 0, none⟩ 1 1 [.string (s.extract f (k + 1))] rfl rfl (cell_one_new _ _ _) (by simp [Value.oneCell']) (by unfold maxLen; omega) (by omega) (by have := hB.size; simp; omega) ?_; intro v' w1 hown' hgrow _)
                  go_roundw
                  case rel => exact ⟨k + 1, k + 1, _, by go_num, by go_num, Nat.le_refl _, by omega, by omega, HD, rel_hit hown', below_append hB hB.size hrow hgrow⟩
                  case measure => simp [RowKit.intOf]; omega
                · have HD := Lib.hid (done_miss hd.out hfk (by rw [← HZ.out]; omega) (by rw [HE.out, if_neg (by omega)]; simp [h15]))
                  have hl2 : ((k : Int) == (s.size : Int) - 1) = false := by rw [beq_eq_false_iff_ne]; omega
                  go_wp2
                  go_roundw
                  case rel => exact ⟨f, k + 1, done, rfl, by go_num, by omega, by omega, by omega, HD, hrow, hB⟩
                  case measure => simp [RowKit.intOf]; omega
    · obtain rfl : k = s.size := by omega
      have hf := done_end (by rw [← HZ.out]; exact hd.out)
      have HF := Lib.hid hf
      clear hf
      go_wp2
      go_ret
      exact ⟨_, rfl, by rw [← HF.out]; exact hrow, hB⟩
end Go.Proofs.YtbokckjlgjnnjaaGreatDoor

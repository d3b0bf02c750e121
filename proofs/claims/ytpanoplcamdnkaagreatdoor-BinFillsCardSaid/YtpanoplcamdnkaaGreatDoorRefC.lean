/- Walk of the reference's Cut. No conditions but bounds. -/
import Derived.Test.YtpanoplcamdnkaaGreatDoorPlainH
import Derived.Test.YtpanoplcamdnkaaGreatDoorRefN
import Derived.Test.YtpanoplcamdnkaaGreatDoorApp
import Derived.Test.YtpanoplcamdnkaaGreatDoorSame
namespace Go.Proofs.YtpanoplcamdnkaaGreatDoor
open Go.RowKit Go.Lib

theorem info_string' : (Tryz.prog.info? 9).map (fun i => (i.zero, i.size, i.bytes)) = some (some (.string ByteArray.empty), 1, 16) := by kernel_rfl
/-- what is cut so far, and what is left -/
def CutSt (b : UInt8) (L : Bytes) (done : List Bytes) (f k : Nat) : Prop := cutAll b L = done ++ cutAux b ((L.take k).drop f) (L.drop k)
theorem CutSt.start (b : UInt8) (L : Bytes) : CutSt b L [] 0 0 := rfl
theorem CutSt.hit {b : UInt8} {L : Bytes} {done : List Bytes} {f k : Nat} (h : CutSt b L done f k) (hk : k < L.length) (e : L[k] = b) : CutSt b L (done ++ [(L.take k).drop f]) (k + 1) (k + 1) := by
  unfold CutSt at h ⊢
  rw [h, List.drop_eq_getElem_cons hk, cutAux, if_pos e, List.append_assoc, drop_take_self]; rfl
theorem CutSt.miss {b : UInt8} {L : Bytes} {done : List Bytes} {f k : Nat} (h : CutSt b L done f k) (hf : f ≤ k) (hk : k < L.length) (e : L[k] ≠ b) : CutSt b L done f (k + 1) := by
  unfold CutSt at h ⊢
  rw [h, List.drop_eq_getElem_cons hk, cutAux, if_neg e, cur_succ L f k hf hk]
theorem CutSt.done {b : UInt8} {L : Bytes} {done : List Bytes} {f : Nat} (h : CutSt b L done f L.length) : cutAll b L = done ++ [L.drop f] := by
  unfold CutSt at h
  rw [h, List.take_of_length_le (Nat.le_refl _), List.drop_eq_nil_of_le (Nat.le_refl _), cutAux]
theorem CutSt.len {b : UInt8} {L : Bytes} {done : List Bytes} {f k : Nat} (h : CutSt b L done f k) : done.length ≤ L.length := by
  have := cutAux_length b L []
  have hne := cutAux_ne b (L.drop k) ((L.take k).drop f)
  unfold CutSt cutAll at h
  rw [h, List.length_append] at this
  have : 0 < (cutAux b ((L.take k).drop f) (L.drop k)).length := List.length_pos_iff.2 hne
  omega
theorem vt_snoc {w : World} {base : Nat} {v : Value} {L : List Bytes} {s : ByteArray} {x : Bytes} (h : w.ownsRow base 9 1 v (L.length + 1) (L.map VT ++ [.string s])) (e : s = bs x) : w.ownsRow base 9 1 v (L ++ [x]).length ((L ++ [x]).map VT) := by
  subst e
  rw [List.length_append, List.map_append]; exact h
set_option maxRecDepth 100000 in
set_option maxHeartbeats 1000000 in
theorem RCut_any (t : ByteArray) (b : UInt8) (ht : t.size ≤ 2 ^ 40) (w : World) :
    Calls Tryz.prog 88 #[.string t, .int .u8 (b.toNat : Int)] w fun e w' => ∃ v, e = .returned v ∧ w'.ownsRow w.heap.size 9 1 v (cutAll b t.data.toList).length ((cutAll b t.data.toList).map VT) ∧ Below w.heap.size w w' := by
  obtain ⟨i0, hi, hz0, hz1, hz2⟩ := info_parts info_string'
  have HZ := Lib.hid (size_toList t)
  have hb256 := b.toNat_lt
  go_enter Tryz.func88, Tryz.ntmps88
  go_wp2
  go_loopg [5, 6, 7] t.size (fun gh vs vf vi wr => ∃ (k f : Nat) (L : List Bytes), vi = .int .i64 k ∧ vf = .int .i64 f ∧ f ≤ k ∧ k ≤ t.size ∧ gh = t.size - k ∧ Hid (CutSt b t.data.toList L f k) ∧ L.length ≤ t.size ∧ wr.ownsRow w.heap.size 9 1 vs L.length (L.map VT) ∧ Below w.heap.size w wr)
  case atStart => exact ⟨0, 0, [], rfl, rfl, Nat.le_refl _, Nat.zero_le _, rfl, Lib.hid (CutSt.start _ _), by simp, World.ownsRow_nil _ _ _ _, Below.refl _ _⟩
  case round =>
    obtain ⟨k, f, L, rfl, rfl, hfk, hk, hgm, hst, hLk, hrow, hB⟩ := hrel
    by_cases hkl : k < t.size
    · have hkl' : k < t.data.toList.length := by rw [← HZ.out]; exact hkl
      have b1 : (0 : Int) ≤ (k : Int) := by omega
      have b2 : (k : Int) < (t.size : Int) := by omega
      have b3 : (f : Int) ≤ (k : Int) := by omega
      have b4 : (0 : Int) ≤ (f : Int) := by omega
      have hc256 := t[k].toNat_lt
      by_cases he : t[k] = b
      · have HN := Lib.hid (hst.out.hit hkl' he)
        have hln : (L ++ [(t.data.toList.take k).drop f]).length ≤ t.size := by rw [HZ.out]; exact HN.out.len
        have hei : ((t[k].toNat : Int) == (b.toNat : Int)) = true := by rw [he]; simp
        have HX := Lib.hid (extract_bs t f k)
        clear he
        go_wp2_with (at_builtin; refine wpList_append_own _ rfl _ _ 27 rfl w.heap.size 9 i0 (.string ByteArray.empty) 1 16 Tryz.underlying27 hi hz0 hz1 hz2 rfl (by decide) _ _ _ rfl (hrow.alloc _) ⟨wr.heap.size, 0, none⟩ 1 1 [.string (t.extract f k)] rfl rfl (cell_one_new _ _ _) (by simp [Value.oneCell']) (by unfold maxLen; omega) (by omega) (by have := hB.size; simp; omega) ?_; intro v5 w5 ho5 hg5 _)
        go_roundg (t.size - (k + 1))
        case measure => omega
        case rel => exact ⟨k + 1, k + 1, _, by go_num, by go_num, Nat.le_refl _, hkl, rfl, HN, hln, vt_snoc ho5 HX.out, below_append hB hB.size hrow hg5⟩
      · have HN := Lib.hid (hst.out.miss hfk hkl' he)
        have hen : ¬ t[k].toNat = b.toNat := fun e => he (UInt8.toNat_inj.1 e)
        have hei : ((t[k].toNat : Int) == (b.toNat : Int)) = false := by rw [beq_eq_false_iff_ne]; omega
        clear he hen
        go_wp2
        go_roundg (t.size - (k + 1))
        case measure => omega
        case rel => exact ⟨k + 1, f, L, by go_num, rfl, by omega, hkl, rfl, HN, hLk, hrow, hB⟩
    · obtain rfl : k = t.size := by omega
      have hd := hst.out
      rw [HZ.out] at hd
      have hdone := hd.done
      have hx : t.extract f t.size = bs (t.data.toList.drop f) := by
        rw [extract_bs, HZ.out, List.take_of_length_le (Nat.le_refl _)]
      have HX := Lib.hid hx
      have HDN := Lib.hid hdone
      have b3 : (f : Int) ≤ (t.size : Int) := by omega
      have b4 : (0 : Int) ≤ (f : Int) := by omega
      clear hd hdone hx hst
      go_wp2_with (at_builtin; refine wpList_append_own _ rfl _ _ 27 rfl w.heap.size 9 i0 (.string ByteArray.empty) 1 16 Tryz.underlying27 hi hz0 hz1 hz2 rfl (by decide) _ _ _ rfl (hrow.alloc _) ⟨wr.heap.size, 0, none⟩ 1 1 [.string (t.extract f t.size)] rfl rfl (cell_one_new _ _ _) (by simp [Value.oneCell']) (by unfold maxLen; omega) (by omega) (by have := hB.size; simp; omega) ?_; intro v5 w5 ho5 hg5 _)
      go_ret
      refine ⟨_, rfl, ?_, below_append hB hB.size hrow hg5⟩
      rw [HDN.out]
      exact vt_snoc ho5 HX.out
end Go.Proofs.YtpanoplcamdnkaaGreatDoor

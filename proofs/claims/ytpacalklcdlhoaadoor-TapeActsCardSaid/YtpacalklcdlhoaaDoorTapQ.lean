/- Walk of tape.Read. Condition: TapW. -/
import Derived.Test.YtpacalklcdlhoaaDoorTapR
import Derived.Test.YtpacalklcdlhoaaDoorApp
import Derived.Test.YtpacalklcdlhoaaDoorSame
namespace Go.Proofs.YtpacalklcdlhoaaDoor
open Go.RowKit Go.Lib

theorem info_stringT : (Tryd.prog.info? 9).map (fun i => (i.zero, i.size, i.bytes)) = some (some (.string ByteArray.empty), 1, 16) := by kernel_rfl
theorem vt_snocT {w : World} {base : Nat} {v : Value} {L : List Bytes} {x : Bytes} (h : w.ownsRow base 9 1 v (L.length + 1) (L.map VT ++ [.string (bs x)])) : w.ownsRow base 9 1 v (L ++ [x]).length ((L ++ [x]).map VT) := by
  rw [List.length_append, List.map_append]; exact h
theorem recs_count (l : List Bytes) : l.length ≤ (recsOf l).length := by
  induction l with
  | nil => simp
  | cons s l ih =>
    have e : recsOf (s :: l) = recOf s ++ recsOf l := rfl
    have := recOf_length_pos s
    rw [e, List.length_append, List.length_cons]; omega
theorem own_below {w w' : World} {base n size : Nat} {e : TypeId} {v : Value} {xs : List Value} (h : w.ownsRow base e size v n xs) (hb : Below w.heap.size w w') : w'.ownsRow base e size v n xs := by
  refine ⟨h.1, ?_⟩
  rcases h.2 with h | ⟨g, cap, cur, hv, hg, hh, h3⟩
  · exact .inl h
  · exact .inr ⟨g, cap, cur, hv, hg, (hb.block g (Array.getElem?_eq_some_iff.1 hh).1).trans hh, h3⟩
/-- what is read, and where it ends -/
def ReadPost (w : World) (b : Bytes) (e : Ending) (w' : World) : Prop :=
  ∃ v, e = .returned (.tuple #[v, .int .i64 ((recsOf (readAll b)).length : Nat)]) ∧ w'.ownsRow w.heap.size 9 1 v (readAll b).length ((readAll b).map VT) ∧ Below w.heap.size w w'
/-- where the reading stands -/
def ReadSt (b : Bytes) (l : List Bytes) (k : Nat) : Prop := b = recsOf l ++ b.drop k ∧ k = (recsOf l).length ∧ ∀ s ∈ l, s.length ≤ 40000
theorem ReadSt.start (b : Bytes) : ReadSt b [] 0 := ⟨rfl, rfl, fun s h => by cases h⟩
theorem ReadSt.le {b : Bytes} {l : List Bytes} {k : Nat} (h : ReadSt b l k) : k ≤ b.length := by
  have := congrArg List.length h.1
  rw [List.length_append, ← h.2.1] at this; omega
theorem ReadSt.next {b : Bytes} {l : List Bytes} {k : Nat} (h : ReadSt b l k) {s : Bytes} (ho : oneOf (b.drop k) = some s) : ReadSt b (l ++ [s]) (k + (recOf s).length) := by
  obtain ⟨h1, h2, h3⟩ := h
  obtain ⟨hs, t, ht⟩ := oneOf_some _ _ ho
  have e : recsOf (l ++ [s]) = recsOf l ++ recOf s := by rw [recsOf_append]; simp [recsOf]
  have hd : b.drop (k + (recOf s).length) = t := by rw [← List.drop_drop, ht, List.drop_left]
  refine ⟨?_, by rw [e, List.length_append, h2], fun x hx => ?_⟩
  · rw [hd, e, List.append_assoc, ← ht]; exact h1
  · rcases List.mem_append.1 hx with hx | hx
    · exact h3 x hx
    · obtain rfl : x = s := by simpa using hx
      exact hs
theorem ReadSt.done {b : Bytes} {l : List Bytes} {k : Nat} (h : ReadSt b l k) (ho : oneOf (b.drop k) = none) : readAll b = l := by
  obtain ⟨h1, h2, h3⟩ := h
  rw [h1]
  exact readAll_recs l _ h3 ho
set_option maxRecDepth 100000 in
set_option maxHeartbeats 1000000 in
theorem Read_any (t : ByteArray) (ht : t.size ≤ 2 ^ 30) (w : World) (h : TapW w) :
    Calls Tryd.prog 23 #[.string t] w (ReadPost w t.data.toList) := by
  obtain ⟨i0, hi, hz0, hz1, hz2⟩ := info_parts info_stringT
  have HW := Lib.hid h
  have HZ := Lib.hid (size_toList t)
  clear h
  go_enter Tryd.func23, Tryd.ntmps23
  go_wp2
  go_loopg [4, 5] t.size (fun gh vs vk wr => ∃ (k : Nat) (L : List Bytes), vk = .int .i64 k ∧ k ≤ t.size ∧ gh = t.size - k ∧ Hid (ReadSt t.data.toList L k) ∧ L.length ≤ t.size ∧ wr.ownsRow w.heap.size 9 1 vs L.length (L.map VT) ∧ Below w.heap.size w wr)
  case atStart => exact ⟨0, [], rfl, Nat.zero_le _, rfl, Lib.hid (ReadSt.start _), by simp, World.ownsRow_nil _ _ _ _, Below.refl _ _⟩
  case round =>
    obtain ⟨k, L, rfl, hk, hgm, hst, hLk, hrow, hB⟩ := hrel
    have b1 : (0 : Int) ≤ (k : Int) := by omega
    have b2 : (k : Int) ≤ (t.size : Int) := by omega
    have hx : (t.extract k t.size).data.toList = t.data.toList.drop k := by
      rw [extract_toList, HZ.out, List.take_of_length_le (Nat.le_refl _)]
    have hxs : (t.extract k t.size).size ≤ t.size := by rw [size_toList, hx, List.length_drop, ← HZ.out]; omega
    cases ho : oneOf (t.data.toList.drop k) with
    | none =>
      have hd := hst.out.done ho
      have hlen := hst.out.2.1
      have HD := Lib.hid hd
      have HLN := Lib.hid hlen
      have HO : Hid (oneRes (oneOf (t.extract k t.size).data.toList) = .tuple #[.string ⟨#[]⟩, .bool false]) := Lib.hid (by rw [hx, ho]; rfl)
      have HXS := Lib.hid hxs
      clear hx hxs ho hd hlen hst
      go_wp2_with fail
      refine (one_any (t.extract k t.size) (Nat.le_trans HXS.out ht) wr (HW.out.below hB)).mono ?_
      rintro e w1 ⟨rfl, hb⟩
      rw [HO.out]
      have hrow1 := own_below hrow hb
      have hB1 := hB.trans (hb.mono hB.size)
      have HR := Lib.hid hrow1
      clear hrow hb hB hrow1
      go_wp2
      go_ret2
      exact ⟨_, by rw [HD.out, ← HLN.out]; rfl, by rw [HD.out]; exact HR.out, hB1⟩
    | some s =>
      have hn := hst.out.next ho
      have hle := hn.le
      have hcnt := recs_count (L ++ [s])
      rw [← hn.2.1] at hcnt
      have hpos := recOf_length_pos s
      have hss := (oneOf_some _ _ ho).1
      have HN := Lib.hid hn
      have HO : Hid (oneRes (oneOf (t.extract k t.size).data.toList) = .tuple #[.string (bs s), .bool true]) := Lib.hid (by rw [hx, ho]; rfl)
      have HXS := Lib.hid hxs
      rw [← HZ.out] at hle
      have hcnt2 : (L ++ [s]).length ≤ t.size := by omega
      have hrs : (bs (recOf (bs s).data.toList)).size = (recOf s).length := by rw [bs_size, bs_toList]
      have hgl : (recOf s).length ≤ t.size - k := by omega
      have HS : Hid ((bs s).size ≤ 2 ^ 40) := Lib.hid (by rw [bs_size]; omega)
      have HC2 := Lib.hid hcnt2
      clear hx hxs ho hn hst hcnt hcnt2 hle hss
      generalize hrl : (recOf s).length = rl at *
      have HRS := Lib.hid hrs
      clear hrl hrs
      go_wp2_with fail
      refine (one_any (t.extract k t.size) (Nat.le_trans HXS.out ht) wr (HW.out.below hB)).mono ?_
      rintro e w1 ⟨rfl, hb⟩
      rw [HO.out]
      have hrow1 := own_below hrow hb
      have hB1 := hB.trans (hb.mono hB.size)
      clear hrow hb hB
      go_wp2_with (first | (at_builtin; refine wpList_append_own _ rfl _ _ 37 rfl w.heap.size 9 i0 (.string ByteArray.empty) 1 16 Tryd.underlying37 hi hz0 hz1 hz2 rfl (by decide) _ _ _ rfl (hrow1.alloc _) ⟨w1.heap.size, 0, none⟩ 1 1 [.string (bs s)] rfl rfl (cell_one_new _ _ _) (by simp [Value.oneCell']) (by unfold maxLen; omega) (by omega) (by have := hB1.size; simp; omega) ?_; intro v5 w5 ho5 hg5 _) | fail)
      have hB5 := below_append hB1 hB1.size hrow1 hg5
      have HO5 := Lib.hid (vt_snocT ho5)
      clear hB1 hrow1 hg5 ho5
      refine (record_any (bs s) HS.out w5 (HW.out.below hB5)).mono ?_
      rintro e w6 ⟨rfl, hb6⟩
      have hB6 := hB5.trans (hb6.mono hB5.size)
      have HR6 := Lib.hid (own_below HO5.out hb6)
      clear hb6 hB5
      have hrs := HRS.out
      generalize bs (recOf (bs s).data.toList) = rb at *
      go_wp2
      go_roundg (t.size - (k + rl))
      case measure => omega
      case rel => exact ⟨k + rl, L ++ [s], by go_num, by omega, rfl, HN, HC2.out, HR6.out, hB6⟩
end Go.Proofs.YtpacalklcdlhoaaDoor

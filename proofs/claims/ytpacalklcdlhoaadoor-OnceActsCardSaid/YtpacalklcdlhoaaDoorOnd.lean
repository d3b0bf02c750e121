/- once.Table: walk of Note. Condition: the sentinels that are read lie as named. -/
import Derived.Test.YtpacalklcdlhoaaDoorOnc
namespace Go.Proofs.YtpacalklcdlhoaaDoor
open Go.RowKit Go.Lib Go.Maps Go.WideMaps

def errK (a : Nat → Addr) (k : Nat) : Value := if k = 0 then .nilIface else sval a k
/-- what noting says: 0: it is noted -/
def noteNo (D : DataW Unit) (t : Bytes) (n an : Int) : Nat :=
  if isName t = false then 3 else if n ≠ wrap64 (an + 1) then 7 else if Maps.has D (.string t) = false ∧ 20 ≤ Maps.size D then 6 else 0
def noteD (D : DataW Unit) (t : Bytes) (n an : Int) (x : Bytes) : DataW Unit := if noteNo D t n an = 0 then D.put (.string t) (ansD n x) else D
theorem note_some {D : DataW Unit} {t x : Bytes} {n an : Int} {k : Nat} (h : noteNo D t n an = k) (hk : k ≠ 0) : noteD D t n an x = D := if_neg (by rw [h]; exact hk)
theorem note_none {D : DataW Unit} {t x : Bytes} {n an : Int} (h : noteNo D t n an = 0) : noteD D t n an x = D.put (.string t) (ansD n x) := if_pos h
theorem OTab.more {b mb cnt : Nat} {D : DataW Unit} {w : World} (h : OTab b mb D cnt w) : OTab b mb D (cnt + 1) w := ⟨h.row, h.map.mono (Nat.le_succ _), h.ne⟩
def NotePost (a : Nat → Addr) (b mb cnt : Nat) (D : DataW Unit) (t : Bytes) (n an : Int) (x : Bytes) (w : World) (e : Ending) (w' : World) : Prop :=
  ∃ r, e = .returned r ∧ r = errK a (noteNo D t n an) ∧ OTab b mb (noteD D t n an x) (cnt + 1) w' ∧ Two b mb w w'
theorem note_end {a : Nat → Addr} {b mb cnt : Nat} {D : DataW Unit} {t x : Bytes} {n an : Int} {w w' : World} {k : Nat} (h : noteNo D t n an = k) (hk : k ≠ 0) (hT : OTab b mb D cnt w) (hb : Below w.heap.size w w') : NotePost a b mb cnt D t n an x w (.returned (sval a k)) w' :=
  ⟨_, rfl, by rw [h]; exact (if_neg hk).symm, by rw [note_some h hk]; exact (hT.below hb).more, Two.of_below hb⟩
set_option maxRecDepth 100000 in
set_option maxHeartbeats 1000000 in
theorem ONote_any (a : Nat → Addr) (b mb cnt : Nat) (hcnt : cnt < maxLen) (D : DataW Unit) (t x : ByteArray) (ht : t.size ≤ maxLen) (n an : Int) (hn : (Lit.int .i64 n).wf = true) (s : Bytes) (hval : D.atKey (.string t.data.toList) (ansD 0 []) = ansD an s) (w : World) (hT : OTab b mb D cnt w) (hs : SomeS [3, 6, 7] a w) :
    Calls Tryd.prog 40 #[.pointer (some ⟨b, 0, none⟩), .string t, .int .i64 n, .string x] w (NotePost a b mb cnt D t.data.toList n an x.data.toList w) := by
  have c0 := hT.cell
  have ht63 : t.size ≤ 9223372036854775807 := by unfold maxLen at ht; omega
  have hsz : Maps.size D ≤ 9223372036854775807 := by have := hT.map.size_le; unfold maxLen at hcnt; omega
  have HSZ := Lib.hid hsz
  have HT := Lib.hid hT
  have HV := Lib.hid hval
  have HW := Lib.hid hn
  have hb9 : Below w.heap.size w (w.alloc (.cells #[.int .i64 an, .string (bs s)] 113)) := (Below.refl _ _).alloc (Nat.le_refl _) _
  have HB9 := Lib.hid hb9
  have S : Hid (∀ w', Below w.heap.size w w' → w'.cell? ⟨7, 0, none⟩ = some (sval a 3) ∧ w'.cell? ⟨5, 0, none⟩ = some (sval a 6) ∧ w'.cell? ⟨8, 0, none⟩ = some (sval a 7)) := Lib.hid fun w' h => ⟨(hs.below h) 3 (by simp), (hs.below h) 6 (by simp), (hs.below h) 7 (by simp)⟩
  have HKEY := Lib.hid (keyOf_string_mk Tryd.underlying9 ht)
  have HCNT := Lib.hid hcnt
  clear hT hval hb9 hs hn hsz hcnt
  cases hN : isName t.data.toList with
  | false =>
    have HJ : Hid (noteNo D t.data.toList n an = 3) := Lib.hid (if_pos hN)
    have HN := Lib.hid hN
    obtain ⟨hasB, hH⟩ : ∃ x, Maps.has D (.string t.data.toList) = x := ⟨_, rfl⟩
    have HH := Lib.hid hH
    clear hN hH HSZ
    go_enter Tryd.func40, Tryd.ntmps40
    go_wp2_with (first | (at_lookup; refine wpList_lookup_ans _ rfl _ _ rfl b mb cnt D HT.out rfl t ht rfl an s HV.out ?_; rw [HH.out]) | fail)
    refine (RcName_any t ht63 _).mono ?_
    rintro e w1 ⟨rfl, hb1⟩
    rw [HN.out]
    have hb2 := HB9.out.trans (hb1.mono HB9.out.size)
    have hrow := (hb1.block w.heap.size (by simp)).trans (heap_alloc_new w (.cells #[.int .i64 an, .string (bs s)] 113))
    have d0 := cell_of_row w1 w.heap.size 0 _ _ _ hrow
    have d1 := cell_of_row w1 w.heap.size 1 _ _ _ hrow
    clear hrow
    obtain ⟨s3, s6, s7⟩ := S.out w1 hb2
    have HT1 := Lib.hid (HT.out.below hb2)
    have c1 := HT1.out.cell
    have hln := HT1.out.map.len Tryd.underlying109 3
    unfold sval at s3 s6 s7
    have HB2 := Lib.hid hb2
    have HP : Hid (NotePost a b mb cnt D t.data.toList n an x.data.toList w (.returned (sval a 3)) w1) := Lib.hid (note_end HJ.out (by decide) HT.out HB2.out)
    unfold sval at HP
    clear hb2 hb1
    go_wp2
    go_ret
    exact HP.out
  | true =>
    have hnf : ¬ isName t.data.toList = false := by rw [hN]; simp
    cases hH : Maps.has D (.string t.data.toList) with
    | true =>
      by_cases hw : n = wrap64 (an + 1)
      · have hwi : (n != wrap64 (an + 1)) = false := by rw [hw]; simp
        have hw1 : ¬ (n ≠ wrap64 (an + 1)) := not_not_intro hw
        have HJ : Hid (noteNo D t.data.toList n an = 0) := Lib.hid ((if_neg hnf).trans ((if_neg hw1).trans (if_neg (fun h => by rw [hH] at h; exact absurd h.1 (by simp)))))
        have HN := Lib.hid hN
        have HH := Lib.hid hH
        clear hN hH hnf hw hw1 HSZ
        go_enter Tryd.func40, Tryd.ntmps40
        go_wp2_with (first | (at_lookup; refine wpList_lookup_ans _ rfl _ _ rfl b mb cnt D HT.out rfl t ht rfl an s HV.out ?_; rw [HH.out]) | fail)
        refine (RcName_any t ht63 _).mono ?_
        rintro e w1 ⟨rfl, hb1⟩
        rw [HN.out]
        have hb2 := HB9.out.trans (hb1.mono HB9.out.size)
        have hrow := (hb1.block w.heap.size (by simp)).trans (heap_alloc_new w (.cells #[.int .i64 an, .string (bs s)] 113))
        have d0 := cell_of_row w1 w.heap.size 0 _ _ _ hrow
        have d1 := cell_of_row w1 w.heap.size 1 _ _ _ hrow
        clear hrow
        obtain ⟨s3, s6, s7⟩ := S.out w1 hb2
        have HT1 := Lib.hid (HT.out.below hb2)
        have c1 := HT1.out.cell
        have hln := HT1.out.map.len Tryd.underlying109 3
        unfold sval at s3 s6 s7
        have HB2 := Lib.hid hb2
        clear hb2 hb1
        go_wp2_with (first | (at_mapUpdate; refine wpList_mapUpdate_in _ rfl _ _ _ 109 rfl 9 113 lawS Tryd.underlying109 ansElem mb cnt D rfl HT1.out.map HCNT.out _ _ _ rfl rfl HKEY.out (ansD n x.data.toList) [] (ansElem_mk n x HW.out) ?_; intro w4 hown4 hturn4) | fail)
        go_ret
        have hgr := hturn4.grown
        exact ⟨_, rfl, by rw [HJ.out]; rfl, by rw [note_none HJ.out]; exact ⟨(hgr.block b HT1.out.lt (by simpa using HT1.out.ne)).trans HT1.out.row, hown4, HT1.out.ne⟩, (Two.of_below HB2.out).grown hgr⟩
      · have hwi : (n != wrap64 (an + 1)) = true := by simpa using hw
        have HJ : Hid (noteNo D t.data.toList n an = 7) := Lib.hid ((if_neg hnf).trans (if_pos hw))
        have HN := Lib.hid hN
        have HH := Lib.hid hH
        clear hN hH hnf hw HSZ
        go_enter Tryd.func40, Tryd.ntmps40
        go_wp2_with (first | (at_lookup; refine wpList_lookup_ans _ rfl _ _ rfl b mb cnt D HT.out rfl t ht rfl an s HV.out ?_; rw [HH.out]) | fail)
        refine (RcName_any t ht63 _).mono ?_
        rintro e w1 ⟨rfl, hb1⟩
        rw [HN.out]
        have hb2 := HB9.out.trans (hb1.mono HB9.out.size)
        have hrow := (hb1.block w.heap.size (by simp)).trans (heap_alloc_new w (.cells #[.int .i64 an, .string (bs s)] 113))
        have d0 := cell_of_row w1 w.heap.size 0 _ _ _ hrow
        have d1 := cell_of_row w1 w.heap.size 1 _ _ _ hrow
        clear hrow
        obtain ⟨s3, s6, s7⟩ := S.out w1 hb2
        have HT1 := Lib.hid (HT.out.below hb2)
        have c1 := HT1.out.cell
        have hln := HT1.out.map.len Tryd.underlying109 3
        unfold sval at s3 s6 s7
        have HB2 := Lib.hid hb2
        have HP : Hid (NotePost a b mb cnt D t.data.toList n an x.data.toList w (.returned (sval a 7)) w1) := Lib.hid (note_end HJ.out (by decide) HT.out HB2.out)
        unfold sval at HP
        clear hb2 hb1
        go_wp2
        go_ret
        exact HP.out
    | false =>
      by_cases hw : n = wrap64 (an + 1)
      · have hwi : (n != wrap64 (an + 1)) = false := by rw [hw]; simp
        have hw1 : ¬ (n ≠ wrap64 (an + 1)) := not_not_intro hw
        by_cases hz : 20 ≤ Maps.size D
        · have hzi : (20 : Int) ≤ (Maps.size D : Int) := by omega
          have HJ : Hid (noteNo D t.data.toList n an = 6) := Lib.hid ((if_neg hnf).trans ((if_neg hw1).trans (if_pos ⟨hH, hz⟩)))
          have HN := Lib.hid hN
          have HH := Lib.hid hH
          have hsz := HSZ.out
          clear hN hH hnf hw hw1 hz
          go_enter Tryd.func40, Tryd.ntmps40
          go_wp2_with (first | (at_lookup; refine wpList_lookup_ans _ rfl _ _ rfl b mb cnt D HT.out rfl t ht rfl an s HV.out ?_; rw [HH.out]) | fail)
          refine (RcName_any t ht63 _).mono ?_
          rintro e w1 ⟨rfl, hb1⟩
          rw [HN.out]
          have hb2 := HB9.out.trans (hb1.mono HB9.out.size)
          have hrow := (hb1.block w.heap.size (by simp)).trans (heap_alloc_new w (.cells #[.int .i64 an, .string (bs s)] 113))
          have d0 := cell_of_row w1 w.heap.size 0 _ _ _ hrow
          have d1 := cell_of_row w1 w.heap.size 1 _ _ _ hrow
          clear hrow
          obtain ⟨s3, s6, s7⟩ := S.out w1 hb2
          have HT1 := Lib.hid (HT.out.below hb2)
          have c1 := HT1.out.cell
          have hln := HT1.out.map.len Tryd.underlying109 3
          unfold sval at s3 s6 s7
          have HB2 := Lib.hid hb2
          have HP : Hid (NotePost a b mb cnt D t.data.toList n an x.data.toList w (.returned (sval a 6)) w1) := Lib.hid (note_end HJ.out (by decide) HT.out HB2.out)
          unfold sval at HP
          clear hb2 hb1
          go_wp2
          go_ret
          exact HP.out
        · have hzi : ¬ (20 : Int) ≤ (Maps.size D : Int) := by omega
          have HJ : Hid (noteNo D t.data.toList n an = 0) := Lib.hid ((if_neg hnf).trans ((if_neg hw1).trans (if_neg (fun h => hz h.2))))
          have HN := Lib.hid hN
          have HH := Lib.hid hH
          have hsz := HSZ.out
          clear hN hH hnf hw hw1 hz
          go_enter Tryd.func40, Tryd.ntmps40
          go_wp2_with (first | (at_lookup; refine wpList_lookup_ans _ rfl _ _ rfl b mb cnt D HT.out rfl t ht rfl an s HV.out ?_; rw [HH.out]) | fail)
          refine (RcName_any t ht63 _).mono ?_
          rintro e w1 ⟨rfl, hb1⟩
          rw [HN.out]
          have hb2 := HB9.out.trans (hb1.mono HB9.out.size)
          have hrow := (hb1.block w.heap.size (by simp)).trans (heap_alloc_new w (.cells #[.int .i64 an, .string (bs s)] 113))
          have d0 := cell_of_row w1 w.heap.size 0 _ _ _ hrow
          have d1 := cell_of_row w1 w.heap.size 1 _ _ _ hrow
          clear hrow
          obtain ⟨s3, s6, s7⟩ := S.out w1 hb2
          have HT1 := Lib.hid (HT.out.below hb2)
          have c1 := HT1.out.cell
          have hln := HT1.out.map.len Tryd.underlying109 3
          unfold sval at s3 s6 s7
          have HB2 := Lib.hid hb2
          clear hb2 hb1
          go_wp2_with (first | (at_mapUpdate; refine wpList_mapUpdate_in _ rfl _ _ _ 109 rfl 9 113 lawS Tryd.underlying109 ansElem mb cnt D rfl HT1.out.map HCNT.out _ _ _ rfl rfl HKEY.out (ansD n x.data.toList) [] (ansElem_mk n x HW.out) ?_; intro w4 hown4 hturn4) | fail)
          go_ret
          have hgr := hturn4.grown
          exact ⟨_, rfl, by rw [HJ.out]; rfl, by rw [note_none HJ.out]; exact ⟨(hgr.block b HT1.out.lt (by simpa using HT1.out.ne)).trans HT1.out.row, hown4, HT1.out.ne⟩, (Two.of_below HB2.out).grown hgr⟩
      · have hwi : (n != wrap64 (an + 1)) = true := by simpa using hw
        have HJ : Hid (noteNo D t.data.toList n an = 7) := Lib.hid ((if_neg hnf).trans (if_pos hw))
        have HN := Lib.hid hN
        have HH := Lib.hid hH
        clear hN hH hnf hw HSZ
        go_enter Tryd.func40, Tryd.ntmps40
        go_wp2_with (first | (at_lookup; refine wpList_lookup_ans _ rfl _ _ rfl b mb cnt D HT.out rfl t ht rfl an s HV.out ?_; rw [HH.out]) | fail)
        refine (RcName_any t ht63 _).mono ?_
        rintro e w1 ⟨rfl, hb1⟩
        rw [HN.out]
        have hb2 := HB9.out.trans (hb1.mono HB9.out.size)
        have hrow := (hb1.block w.heap.size (by simp)).trans (heap_alloc_new w (.cells #[.int .i64 an, .string (bs s)] 113))
        have d0 := cell_of_row w1 w.heap.size 0 _ _ _ hrow
        have d1 := cell_of_row w1 w.heap.size 1 _ _ _ hrow
        clear hrow
        obtain ⟨s3, s6, s7⟩ := S.out w1 hb2
        have HT1 := Lib.hid (HT.out.below hb2)
        have c1 := HT1.out.cell
        have hln := HT1.out.map.len Tryd.underlying109 3
        unfold sval at s3 s6 s7
        have HB2 := Lib.hid hb2
        have HP : Hid (NotePost a b mb cnt D t.data.toList n an x.data.toList w (.returned (sval a 7)) w1) := Lib.hid (note_end HJ.out (by decide) HT.out HB2.out)
        unfold sval at HP
        clear hb2 hb1
        go_wp2
        go_ret
        exact HP.out
end Go.Proofs.YtpacalklcdlhoaaDoor

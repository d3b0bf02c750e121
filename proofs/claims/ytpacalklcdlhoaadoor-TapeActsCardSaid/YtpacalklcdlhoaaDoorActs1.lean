/- PlainV, RefT, RefS, RefV, RefX, TapN in one text. Conditions: as each part says. -/
import Derived.Test.YtpacalklcdlhoaaDoorPlainS
import Derived.Test.YtpacalklcdlhoaaDoorTapR
import Derived.Test.YtpacalklcdlhoaaDoorRefN
import Derived.Test.YtpacalklcdlhoaaDoorTape1
import Derived.Test.YtpacalklcdlhoaaDoorRefP
import Derived.Test.YtpacalklcdlhoaaDoorTapQ
import Derived.Test.YtpacalklcdlhoaaDoorTapM
import Derived.Test.YtpacalklcdlhoaaDoorErrV
/- Plain words: the reference's way to read a record in front is the tape's. No conditions. -/
namespace Go.Proofs.YtpacalklcdlhoaaDoor
open Go.RowKit Go.Lib

theorem oneOf_nonum {b d r : Bytes} (h : byteCut 58 b = some (d, r)) (hn : numOf d 9 = none) : oneOf b = none := by
  cases hv : atoiO d with
  | none => exact oneOf_none2 h hv
  | some v =>
    rw [oneOf_at h hv, if_neg]
    rintro ⟨h1, h2, h3, _⟩
    unfold numOf at hn
    rw [hv] at hn
    simp only at hn
    rw [if_pos ⟨h1, h2, h3⟩] at hn
    cases hn
theorem oneOf_num {b d r : Bytes} (h : byteCut 58 b = some (d, r)) (n : Nat) (hn : numOf d 9 = some n) :
    oneOf b = if n ≤ 40000 ∧ n + 2 ≤ r.length ∧ (r.drop n).take 2 = [10, 46] then some (r.take n) else none := by
  obtain ⟨h1, h2, h3⟩ := numOf_some hn
  rw [oneOf_at h h1, Int.toNat_natCast]
  have e : itoa (n : Int) = d := by rw [itoa_nat, h3]
  by_cases hc : n ≤ 40000 ∧ n + 2 ≤ r.length ∧ (r.drop n).take 2 = [10, 46]
  · rw [if_pos hc, if_pos ⟨h2, by omega, e, by omega, hc.2.1, hc.2.2⟩]
  · rw [if_neg hc, if_neg]
    rintro ⟨_, _, _, a4, a5, a6⟩
    exact hc ⟨by omega, a5, a6⟩
theorem take2 {r : Bytes} {n : Nat} (h : n + 2 ≤ r.length) : (r.drop n).take 2 = [r[n]'(by omega), r[n + 1]'(by omega)] := by
  rw [List.drop_eq_getElem_cons (by omega), List.drop_eq_getElem_cons (by omega)]; rfl
/-- one record's end, told of the number and of the two bytes behind -/
theorem oneOf_yes {b d r : Bytes} (h : byteCut 58 b = some (d, r)) (n : Nat) (hn : numOf d 9 = some n) (h1 : n ≤ 40000) (h2 : n + 2 ≤ r.length) (h3 : r[n]'(by omega) = 10) (h4 : r[n + 1]'(by omega) = 46) :
    oneOf b = some (r.take n) ∧ (recOf (r.take n)).length = d.length + n + 3 := by
  refine ⟨by rw [oneOf_num h n hn, if_pos ⟨h1, h2, by rw [take2 h2, h3, h4]⟩], ?_⟩
  obtain ⟨_, _, e⟩ := numOf_some hn
  have hl : (r.take n).length = n := by rw [List.length_take]; omega
  unfold recOf
  rw [hl, ← e]
  simp [hl]
  omega
theorem oneOf_end {b d r : Bytes} (h : byteCut 58 b = some (d, r)) (n : Nat) (hn : numOf d 9 = some n) (h2 : n + 2 ≤ r.length) (h3 : ¬ (r[n]'(by omega) = 10 ∧ r[n + 1]'(by omega) = 46)) : oneOf b = none := by
  rw [oneOf_num h n hn, if_neg]
  rintro ⟨_, _, e⟩
  rw [take2 h2] at e
  injection e with e1 e2
  injection e2 with e2
  exact h3 ⟨e1, e2⟩
theorem oneOf_long {b d r : Bytes} (h : byteCut 58 b = some (d, r)) (n : Nat) (hn : numOf d 9 = some n) (h1 : ¬ (n ≤ 40000 ∧ n + 2 ≤ r.length)) : oneOf b = none := by
  rw [oneOf_num h n hn, if_neg]
  rintro ⟨a, b, _⟩
  exact h1 ⟨a, b⟩
end Go.Proofs.YtpacalklcdlhoaaDoor
/- Walks of the reference's tape: Record, SetCut, Append, ReadTape, Recover. No conditions but bounds. -/
namespace Go.Proofs.YtpacalklcdlhoaaDoor
open Go.RowKit Go.Lib

/-- the reference's tape in block m, in state s -/
def MAt (m : Nat) (s : DSt) (w : World) : Prop := w.heap[m]? = some (.cells #[.string (bs s.b), .bool s.off, .int .i64 s.cut] 60 (0, 0))
theorem MAt.lt {m : Nat} {s : DSt} {w : World} (h : MAt m s w) : m < w.heap.size := (Array.getElem?_eq_some_iff.1 h).1
theorem MAt.cells {m : Nat} {s : DSt} {w : World} (h : MAt m s w) :
    w.cell? ⟨m, 0, none⟩ = some (.string (bs s.b)) ∧ w.cell? ⟨m, 1, none⟩ = some (.bool s.off) ∧ w.cell? ⟨m, 2, none⟩ = some (.int .i64 s.cut) ∧ w.frozen? ⟨m, 0, none⟩ = false ∧ w.frozen? ⟨m, 1, none⟩ = false ∧ w.frozen? ⟨m, 2, none⟩ = false :=
  ⟨by rw [cell_of_row w m 0 _ _ _ h]; rfl, by rw [cell_of_row w m 1 _ _ _ h]; rfl, by rw [cell_of_row w m 2 _ _ _ h]; rfl, frozen_of_row w m 0 _ _ h, frozen_of_row w m 1 _ _ h, frozen_of_row w m 2 _ _ h⟩
theorem MAt.below {m : Nat} {s : DSt} {w w' : World} (h : MAt m s w) (hb : Below w.heap.size w w') : MAt m s w' := (hb.block m h.lt).trans h
theorem MAt.set0 {m : Nat} {s : DSt} {w : World} (h : MAt m s w) (b : Bytes) : MAt m ⟨b, s.off, s.cut⟩ (w.setCell ⟨m, 0, none⟩ (.string (bs b))) := set_row h
theorem MAt.set1 {m : Nat} {s : DSt} {w : World} (h : MAt m s w) (x : Bool) : MAt m ⟨s.b, x, s.cut⟩ (w.setCell ⟨m, 1, none⟩ (.bool x)) := set_row h
theorem MAt.set2 {m : Nat} {s : DSt} {w : World} (h : MAt m s w) (x : Int) : MAt m ⟨s.b, s.off, x⟩ (w.setCell ⟨m, 2, none⟩ (.int .i64 x)) := set_row h
theorem RTRecord_any (t : ByteArray) (ht : t.size ≤ 2 ^ 40) (w : World) :
    Calls Tryd.prog 66 #[.string t] w fun e w' => e = .returned (.string (bs (recOf t.data.toList))) ∧ Below w.heap.size w w' := by
  have hz := size_toList t
  have hcat : bs (itoa (t.size : Int)) ++ ⟨#[58]⟩ ++ t ++ ⟨#[10, 46]⟩ = bs (recOf t.data.toList) := by
    rw [recOf_itoa, ← hz]
    apply ba_ext
    simp [bs_toList]
  have HC := Lib.hid hcat
  have hi21 : (bs (itoa (t.size : Int))).size ≤ 21 := by rw [bs_size, itoa_nat, decDigits_length]; exact Nat.le_trans (nDigits_le20 _ (by omega)) (by decide)
  clear hcat hz
  go_enter Tryd.func66, Tryd.ntmps66
  go_wp2_with fail
  refine (RDecimal_any (t.size : Int) (by omega) (by omega) w).mono ?_
  rintro e w1 ⟨rfl, hb⟩
  go_wp2
  go_ret
  exact ⟨by rw [← HC.out]; rfl, hb⟩
/-- what a cut of n answers, and the state behind it -/
def cutNo (s : DSt) (n : Int) : Int := if n < 0 then 2 else if s.off then 12 else 0
def cutSt (s : DSt) (n : Int) : DSt := if n < 0 then s else if s.off then s else ⟨s.b, false, n⟩
def MPost (m : Nat) (s' : DSt) (w w' : World) : Prop := MAt m s' w' ∧ Two m m w w'
theorem RTSetCut_any (m : Nat) (s : DSt) (n : Int) (w : World) (h : MAt m s w) :
    Calls Tryd.prog 32 #[.pointer (some ⟨m, 0, none⟩), .int .i64 n] w fun e w' => e = .returned (.int .i64 (cutNo s n)) ∧ MPost m (cutSt s n) w w' := by
  obtain ⟨c0, c1, c2, f0, f1, f2⟩ := h.cells
  have H := Lib.hid h
  clear h
  obtain ⟨b, off, cut⟩ := s
  by_cases hn : n < 0
  · have HC : Hid (cutNo ⟨b, off, cut⟩ n = 2 ∧ cutSt ⟨b, off, cut⟩ n = ⟨b, off, cut⟩) := Lib.hid ⟨if_pos hn, if_pos hn⟩
    go_enter Tryd.func32, Tryd.ntmps32
    go_wp2
    go_ret
    exact ⟨by rw [HC.out.1]; rfl, by rw [HC.out.2]; exact ⟨H.out, Two.refl _ _ _⟩⟩
  · cases off with
    | true =>
      have HC : Hid (cutNo ⟨b, true, cut⟩ n = 12 ∧ cutSt ⟨b, true, cut⟩ n = ⟨b, true, cut⟩) := Lib.hid ⟨(if_neg hn).trans (if_pos rfl), (if_neg hn).trans (if_pos rfl)⟩
      go_enter Tryd.func32, Tryd.ntmps32
      go_wp2
      go_ret
      exact ⟨by rw [HC.out.1]; rfl, by rw [HC.out.2]; exact ⟨H.out, Two.refl _ _ _⟩⟩
    | false =>
      have HC : Hid (cutNo ⟨b, false, cut⟩ n = 0 ∧ cutSt ⟨b, false, cut⟩ n = ⟨b, false, n⟩) := Lib.hid ⟨(if_neg hn).trans (if_neg (by simp)), (if_neg hn).trans (if_neg (by simp))⟩
      go_enter Tryd.func32, Tryd.ntmps32
      go_wp2
      go_ret
      exact ⟨by rw [HC.out.1]; rfl, by rw [HC.out.2]; exact ⟨H.out.set2 n, (Two.refl m m w).setCell 2 _⟩⟩
end Go.Proofs.YtpacalklcdlhoaaDoor
/- Walk of the reference's Append on a tape. No conditions but bounds. -/
namespace Go.Proofs.YtpacalklcdlhoaaDoor
open Go.RowKit Go.Lib

def apCode (s : DSt) (x : Bytes) : Int := if apNo s x = 0 then 0 else (apNo s x : Int) + 1
theorem apBig {s : DSt} {x : Bytes} (h : 40000 < x.length) : apNo s x = 1 ∧ apSt s x = s := ⟨by unfold apNo; rw [if_pos h], by unfold apSt; rw [if_pos h]⟩
theorem apFull {s : DSt} {x : Bytes} (h : ¬ 40000 < x.length) (h2 : 1048576 < (recOf x).length + s.b.length) : apNo s x = 6 ∧ apSt s x = s := ⟨by unfold apNo; rw [if_neg h, if_pos h2], by unfold apSt; rw [if_neg h, if_pos h2]⟩
theorem apWr {s : DSt} {x : Bytes} (h : ¬ 40000 < x.length) (h2 : ¬ 1048576 < (recOf x).length + s.b.length) : apNo s x = (if wrOk s (recOf x) then 0 else 11) ∧ apSt s x = wrSt s (recOf x) := ⟨by unfold apNo; rw [if_neg h, if_neg h2], by unfold apSt; rw [if_neg h, if_neg h2]⟩
theorem apWr11 {s : DSt} {x : Bytes} (h : ¬ 40000 < x.length) (h2 : ¬ 1048576 < (recOf x).length + s.b.length) (h3 : wrOk s (recOf x) = false) : apNo s x = 11 ∧ apSt s x = wrSt s (recOf x) := by
  obtain ⟨a, b⟩ := apWr h h2
  rw [h3] at a
  exact ⟨a, b⟩
theorem apWr0 {s : DSt} {x : Bytes} (h : ¬ 40000 < x.length) (h2 : ¬ 1048576 < (recOf x).length + s.b.length) (h3 : wrOk s (recOf x) = true) : apNo s x = 0 ∧ apSt s x = wrSt s (recOf x) := by
  obtain ⟨a, b⟩ := apWr h h2
  rw [h3] at a
  exact ⟨a, b⟩
/-- the answer and the state behind it, told of the case -/
theorem ap_end {s s' : DSt} {x : Bytes} {k : Nat} {m : Nat} {w w' : World} (h : apNo s x = k ∧ apSt s x = s') (hm : MAt m s' w') (h2 : Two m m w w') (c : Int) (hc : c = if k = 0 then 0 else (k : Int) + 1) :
    (Ending.returned (.int .i64 c) = .returned (.int .i64 (apCode s x))) ∧ MPost m (apSt s x) w w' := by
  obtain ⟨h1, h3⟩ := h
  exact ⟨by rw [hc]; unfold apCode; rw [h1], by rw [h3]; exact ⟨hm, h2⟩⟩
set_option maxRecDepth 100000 in
set_option maxHeartbeats 1000000 in
theorem RTAppend_any (m : Nat) (s : DSt) (t : ByteArray) (ht : t.size ≤ 2 ^ 30) (hb : s.b.length ≤ 2 ^ 30) (hcut : s.cut ≤ 9223372036854775807) (hcut0 : -9223372036854775808 ≤ s.cut) (w : World) (h : MAt m s w) :
    Calls Tryd.prog 31 #[.pointer (some ⟨m, 0, none⟩), .string t] w fun e w' => e = .returned (.int .i64 (apCode s t.data.toList)) ∧ MPost m (apSt s t.data.toList) w w' := by
  obtain ⟨b, off, cut⟩ := s
  simp only at hb hcut hcut0
  have HM := Lib.hid h
  have hx := size_toList t
  have hbs : (bs b).size = b.length := bs_size b
  obtain ⟨c0, c1, c2, f0, f1, f2⟩ := h.cells
  have ht40 : t.size ≤ 2 ^ 40 := by omega
  clear h
  by_cases h1 : 40000 < t.size
  · have h1i : (40000 : Int) < (t.size : Int) := by omega
    have HA := Lib.hid (apBig (s := ⟨b, off, cut⟩) (x := t.data.toList) (by omega))
    clear hx hbs
    go_enter Tryd.func31, Tryd.ntmps31
    go_wp2
    go_ret
    exact ap_end HA.out HM.out (Two.refl _ _ _) 2 rfl
  · have h1i : ¬ (40000 : Int) < (t.size : Int) := by omega
    have h1n : ¬ 40000 < t.data.toList.length := by omega
    obtain ⟨R, hR⟩ : ∃ R, R = bs (recOf t.data.toList) := ⟨_, rfl⟩
    have hRs : R.size = (recOf t.data.toList).length := by rw [hR, bs_size]
    have hRl : R.data.toList = recOf t.data.toList := by rw [hR, bs_toList]
    have hR40 : R.size ≤ 40012 := by
      have := recOf_length t.data.toList (by omega)
      omega
    have REC : Hid (∀ w, Calls Tryd.prog 66 #[.string t] w fun e w' => e = .returned (.string R) ∧ Below w.heap.size w w') := Lib.hid fun w => by rw [hR]; exact RTRecord_any t ht40 w
    have hbz : (bs b).size ≤ 2 ^ 30 := by rw [bs_size]; exact hb
    by_cases h2 : 1048576 < (recOf t.data.toList).length + b.length
    · have h2i : (1048576 : Int) < ((bs b).size : Int) + (R.size : Int) := by omega
      have HA := Lib.hid (apFull (s := ⟨b, off, cut⟩) (x := t.data.toList) h1n h2)
      clear hx hbs hRs hRl hR h1n h2
      go_enter Tryd.func31, Tryd.ntmps31
      go_wp2_with fail
      refine (REC.out w).mono ?_
      rintro e w1 ⟨rfl, hB⟩
      have HM1 := Lib.hid (HM.out.below hB)
      have HB := Lib.hid hB
      obtain ⟨c0, c1, c2, f0, f1, f2⟩ := HM1.out.cells
      clear hB HM REC
      go_wp2
      go_ret
      exact ap_end HA.out HM1.out (Two.of_below HB.out) 7 rfl
    · have h2i : ¬ (1048576 : Int) < ((bs b).size : Int) + (R.size : Int) := by omega
      have hbR : (bs b).size ≤ 1048576 := by omega
      cases off with
      | true =>
        have HA := Lib.hid (apWr11 (s := ⟨b, true, cut⟩) (x := t.data.toList) h1n h2 (wrOk_off _ _ _))
        clear hx hbs hRs hRl hR h1n h2
        go_enter Tryd.func31, Tryd.ntmps31
        go_wp2_with fail
        refine (REC.out w).mono ?_
        rintro e w1 ⟨rfl, hB⟩
        have HM1 := Lib.hid (HM.out.below hB)
        have HB := Lib.hid hB
        obtain ⟨c0, c1, c2, f0, f1, f2⟩ := HM1.out.cells
        clear hB HM REC
        go_wp2
        go_ret
        exact ap_end HA.out (by rw [wrSt_off]; exact HM1.out) (Two.of_below HB.out) 12 rfl
      | false =>
        by_cases h3 : 0 ≤ cut
        · by_cases h4 : cut < (R.size : Int)
          · have h4le : cut ≤ (R.size : Int) := by omega
            have h4n : cut < ((recOf t.data.toList).length : Int) := by omega
            have HA := Lib.hid (apWr11 (s := ⟨b, false, cut⟩) (x := t.data.toList) h1n h2 (wrOk_cut _ _ _ h3 h4n))
            have HX : Hid (bs b ++ R.extract 0 cut.toNat = bs (b ++ (recOf t.data.toList).take cut.toNat)) := Lib.hid (by apply ba_ext; rw [extract_bs, hRl]; simp [bs_toList])
            have HW := Lib.hid (wrSt_cut b cut (recOf t.data.toList) h3 h4n)
            clear hx hbs hRs hRl hR h1n h2 h4n
            go_enter Tryd.func31, Tryd.ntmps31
            go_wp2_with fail
            refine (REC.out w).mono ?_
            rintro e w1 ⟨rfl, hB⟩
            have HM1 := Lib.hid (HM.out.below hB)
            have HB := Lib.hid hB
            obtain ⟨c0, c1, c2, f0, f1, f2⟩ := HM1.out.cells
            clear hB HM REC
            go_wp2
            go_region
            all_goals go_wp2
            all_goals go_ret
            all_goals exact ap_end HA.out (by rw [HW.out, HX.out]; exact MAt.set1 (MAt.set0 (w := w1.drew) HM1.out _) true) ((((Two.of_below HB.out).drew).setCell 0 _).setCell 1 _) 12 rfl
          · have h4n : ¬ cut < ((recOf t.data.toList).length : Int) := by omega
            have HA := Lib.hid (apWr0 (s := ⟨b, false, cut⟩) (x := t.data.toList) h1n h2 (wrOk_not _ _ _ (fun h => h4n h.2)))
            have HX : Hid (bs b ++ R = bs (b ++ recOf t.data.toList)) := Lib.hid (by apply ba_ext; simp [bs_toList, hRl])
            have HW := Lib.hid (wrSt_fits b cut (recOf t.data.toList) h3 h4n)
            have HRS := Lib.hid hRs
            clear hx hbs hRs hRl hR h1n h2 h4n
            go_enter Tryd.func31, Tryd.ntmps31
            go_wp2_with fail
            refine (REC.out w).mono ?_
            rintro e w1 ⟨rfl, hB⟩
            have HM1 := Lib.hid (HM.out.below hB)
            have HB := Lib.hid hB
            obtain ⟨c0, c1, c2, f0, f1, f2⟩ := HM1.out.cells
            clear hB HM REC
            go_wp2
            go_ret
            exact ap_end HA.out (by rw [HW.out, HX.out, ← HRS.out]; exact (HM1.out.set2 _).set0 _) (((Two.of_below HB.out).setCell 2 _).setCell 0 _) 0 rfl
        · have h3n : cut < 0 := by omega
          have HA := Lib.hid (apWr0 (s := ⟨b, false, cut⟩) (x := t.data.toList) h1n h2 (wrOk_not _ _ _ (fun h => h3 h.1)))
          have HX : Hid (bs b ++ R = bs (b ++ recOf t.data.toList)) := Lib.hid (by apply ba_ext; simp [bs_toList, hRl])
          have HW := Lib.hid (wrSt_free b cut (recOf t.data.toList) h3)
          clear hx hbs hRs hRl hR h1n h2
          go_enter Tryd.func31, Tryd.ntmps31
          go_wp2_with fail
          refine (REC.out w).mono ?_
          rintro e w1 ⟨rfl, hB⟩
          have HM1 := Lib.hid (HM.out.below hB)
          have HB := Lib.hid hB
          obtain ⟨c0, c1, c2, f0, f1, f2⟩ := HM1.out.cells
          clear hB HM REC
          go_wp2
          go_ret
          exact ap_end HA.out (by rw [HW.out, HX.out]; exact HM1.out.set0 _) ((Two.of_below HB.out).setCell 0 _) 0 rfl
end Go.Proofs.YtpacalklcdlhoaaDoor
/- Walk of the reference's ReadTape. No conditions but bounds. -/
namespace Go.Proofs.YtpacalklcdlhoaaDoor
open Go.RowKit Go.Lib

theorem numZ_none {d : Bytes} (h : numOf d 9 = none) : numZ d 9 = -1 := by unfold numZ; rw [numR_eq d 9 (by decide), h]
theorem numZ_some {d : Bytes} {n : Nat} (h : numOf d 9 = some n) : numZ d 9 = (n : Int) := by unfold numZ; rw [numR_eq d 9 (by decide), h]
theorem byteCut_at (l : Bytes) (dn k : Nat) (hk : k < l.length) (h : dn ≤ k) (he : l[k] = 58) (hno : ∀ j (hj : j < l.length), dn ≤ j → j < k → l[j] ≠ 58) :
    byteCut 58 (l.drop dn) = some ((l.take k).drop dn, l.drop (k + 1)) := by
  have e : l.drop dn = (l.take k).drop dn ++ 58 :: l.drop (k + 1) := by
    have h1 : l = l.take k ++ 58 :: l.drop (k + 1) := by
      conv => lhs; rw [← List.take_append_drop k l]
      rw [List.drop_eq_getElem_cons hk, he]
    conv => lhs; rw [h1]
    rw [List.drop_append_of_le_length (by rw [List.length_take]; omega)]
  rw [e]
  refine byteCut_of 58 _ _ fun hm => ?_
  obtain ⟨i, hi, hx⟩ := List.getElem_of_mem hm
  rw [List.length_drop, List.length_take] at hi
  have hj : dn + i < l.length := by omega
  refine hno (dn + i) hj (by omega) (by omega) ?_
  rw [← hx]; simp
theorem byteCut_end (l : Bytes) (dn : Nat) (hno : ∀ j (hj : j < l.length), dn ≤ j → l[j] ≠ 58) : byteCut 58 (l.drop dn) = none := by
  rw [byteCut_none]
  intro hm
  obtain ⟨i, hi, hx⟩ := List.getElem_of_mem hm
  rw [List.length_drop] at hi
  refine hno (dn + i) (by omega) (by omega) ?_
  rw [← hx]; simp
theorem drop_at {l : Bytes} {k n : Nat} (h : n < (l.drop (k + 1)).length) : (l.drop (k + 1))[n] = l[k + 1 + n]'(by rw [List.length_drop] at h; omega) := by simp
theorem vt_snocE {w : World} {base : Nat} {v : Value} {L : List Bytes} {s : ByteArray} {x : Bytes} (h : w.ownsRow base 9 1 v (L.length + 1) (L.map VT ++ [.string s])) (e : s = bs x) : w.ownsRow base 9 1 v (L ++ [x]).length ((L ++ [x]).map VT) := by
  subst e
  rw [List.length_append, List.map_append]; exact h
/-- what is read, told where the reading ends -/
theorem read_end {w w' : World} {b : Bytes} {L : List Bytes} {k : Nat} {v : Value} (h : ReadSt b L k) (ho : oneOf (b.drop k) = none) (hr : w'.ownsRow w.heap.size 9 1 v L.length (L.map VT)) (hb : Below w.heap.size w w') :
    ReadPost w b (.returned (.tuple #[v, .int .i64 (k : Int)])) w' := by
  have hd := h.done ho
  have hl := h.2.1
  exact ⟨v, by rw [hd, ← hl], by rw [hd]; exact hr, hb⟩
set_option maxRecDepth 100000 in
set_option maxHeartbeats 4000000 in
theorem RReadTape_any (t : ByteArray) (ht : t.size ≤ 2 ^ 30) (w : World) :
    Calls Tryd.prog 35 #[.string t] w (ReadPost w t.data.toList) := by
  obtain ⟨i0, hi, hz0, hz1, hz2⟩ := info_parts info_stringT
  have HZ := Lib.hid (size_toList t)
  go_enter Tryd.func35, Tryd.ntmps35
  go_wp2
  go_loopg [4, 5] t.size (fun gh vs vd wr => ∃ (dn : Nat) (L : List Bytes), vd = .int .i64 dn ∧ dn ≤ t.size ∧ gh = t.size - dn ∧ Hid (ReadSt t.data.toList L dn) ∧ L.length ≤ t.size ∧ Hid (wr.ownsRow w.heap.size 9 1 vs L.length (L.map VT)) ∧ Hid (Below w.heap.size w wr))
  case atStart => exact ⟨0, [], rfl, Nat.zero_le _, rfl, Lib.hid (ReadSt.start _), by simp, Lib.hid (World.ownsRow_nil _ _ _ _), Lib.hid (Below.refl _ _)⟩
  case round =>
    obtain ⟨dn, L, rfl, hdn, hgm, hst, hL, hrow, hB⟩ := hrel
    go_wp2
    go_loop [6] (fun vk => ∃ k : Nat, vk = .int .i64 k ∧ dn ≤ k ∧ k ≤ t.size ∧ Hid (∀ j (hj : j < t.data.toList.length), dn ≤ j → j < k → t.data.toList[j] ≠ 58)) (fun vk => t.size - (intOf vk).toNat)
    case atStart => exact ⟨dn, rfl, Nat.le_refl _, hdn, Lib.hid (fun j _ h1 h2 => absurd h2 (by omega))⟩
    case round =>
      obtain ⟨k, rfl, hk0, hk, hno⟩ := hrel
      by_cases hkl : k < t.size
      · have hkl' : k < t.data.toList.length := by rw [← HZ.out]; exact hkl
        have b1 : (0 : Int) ≤ (k : Int) := by omega
        have b2 : (k : Int) < (t.size : Int) := by omega
        have hc256 := t[k].toNat_lt
        by_cases he : t[k] = 58
        · have hei : ((t[k].toNat : Int) != 58) = false := by rw [he]; rfl
          have hcut := byteCut_at t.data.toList dn k hkl' hk0 he hno.out
          have HX := Lib.hid (extract_bs t dn k)
          have b3 : (dn : Int) ≤ (k : Int) := by omega
          have b4 : (0 : Int) ≤ (dn : Int) := by omega
          have b5 : ((k : Int) == (t.size : Int)) = false := by rw [beq_eq_false_iff_ne]; omega
          have HCUT := Lib.hid hcut
          clear hcut hno
          have hdl : ((t.data.toList.take k).drop dn).length = k - dn := by rw [List.length_drop, List.length_take]; omega
          have hrl : (t.data.toList.drop (k + 1)).length + (k + 1) = t.size := by rw [List.length_drop, HZ.out]; omega
          have HXD : Hid ((t.extract dn k).data.toList = (t.data.toList.take k).drop dn) := Lib.hid (by rw [HX.out, bs_toList])
          cases hn : numOf ((t.data.toList.take k).drop dn) 9 with
          | none =>
            have HNZ : Hid (numZ (t.extract dn k).data.toList 9 = -1) := Lib.hid (by rw [HXD.out]; exact numZ_none hn)
            have HE := Lib.hid (read_end hst.out (oneOf_nonum HCUT.out hn) hrow.out hB.out)
            clear hn hdl hrl he
            go_wp2_with fail
            refine (RNumberOf_any (t.extract dn k) 9 (by decide) wr).mono ?_
            rintro e w1 ⟨rfl, rfl⟩
            rw [HNZ.out]
            go_wp2
            go_ret2
            exact HE.out
          | some n =>
            have HNZ : Hid (numZ (t.extract dn k).data.toList 9 = (n : Int)) := Lib.hid (by rw [HXD.out]; exact numZ_some hn)
            have n0 : (0 : Int) ≤ (n : Int) := by omega
            by_cases h1 : n ≤ 40000
            · have h1i : ¬ (40000 : Int) < (n : Int) := by omega
              by_cases h2 : k + 1 + n + 2 ≤ t.size
              · have h2i : ¬ (t.size : Int) - (k : Int) - 1 < (n : Int) + 2 := by omega
                have h2r : n + 2 ≤ (t.data.toList.drop (k + 1)).length := by omega
                have hy := oneOf_yes HCUT.out n hn h1 h2r
                have hz := oneOf_end HCUT.out n hn h2r
                rw [drop_at, drop_at] at hy hz
                have HY := Lib.hid hy
                have HZZ := Lib.hid hz
                clear hy hz
                have p1 : (0 : Int) ≤ (k : Int) + 1 := by omega
                have p2 : (k : Int) + 1 ≤ (k : Int) + 1 + (n : Int) := by omega
                have p3 : (k : Int) + 1 + (n : Int) ≤ (t.size : Int) := by omega
                have p4 : (k : Int) + 1 + (n : Int) < (t.size : Int) := by omega
                have p5 : (k : Int) + 2 + (n : Int) < (t.size : Int) := by omega
                have p6 : (0 : Int) ≤ (k : Int) + 1 + (n : Int) := by omega
                have p7 : (0 : Int) ≤ (k : Int) + 2 + (n : Int) := by omega
                have q1 : k + 1 + n < t.size := by omega
                have q2 : k + 2 + n < t.size := by omega
                have e2 : k + 1 + (n + 1) = k + 2 + n := by omega
                have r1 := t[k + 1 + n].toNat_lt
                have r2 := t[k + 2 + n].toNat_lt
                have H1 : Hid (t.data.toList[k + 1 + n]'(by rw [← HZ.out]; omega) = t[k + 1 + n]) := Lib.hid rfl
                have H2 : Hid (t.data.toList[k + 1 + (n + 1)]'(by rw [← HZ.out]; omega) = t[k + 2 + n]) := Lib.hid (by simp only [e2]; rfl)
                clear e2
                by_cases h3 : t[k + 1 + n] = 10
                · have h3i : ((t[k + 1 + n].toNat : Int) != 10) = false := by rw [h3]; rfl
                  by_cases h4 : t[k + 2 + n] = 46
                  · have h4i : ((t[k + 2 + n].toNat : Int) != 46) = false := by rw [h4]; rfl
                    obtain ⟨hy1, hy2⟩ := HY.out (by rw [H1.out, h3]) (by rw [H2.out, h4])
                    have hst2 := hst.out.next hy1
                    have hlen2 : dn + (recOf ((t.data.toList.drop (k + 1)).take n)).length = k + 3 + n := by rw [hy2, hdl]; omega
                    rw [hlen2] at hst2
                    have hcnt := recs_count (L ++ [(t.data.toList.drop (k + 1)).take n])
                    rw [← hst2.2.1] at hcnt
                    have hcnt2 : (L ++ [(t.data.toList.drop (k + 1)).take n]).length ≤ t.size := by omega
                    have HST2 := Lib.hid hst2
                    have HXS : Hid (t.extract (k + 1) (k + 1 + n) = bs ((t.data.toList.drop (k + 1)).take n)) := Lib.hid (by rw [extract_bs, List.drop_take]; congr 2; omega)
                    have HC2 := Lib.hid hcnt2
                    have hsz := hB.out.size
                    clear HY HZZ H1 H2 hst2 hcnt hcnt2 hlen2 hy1 hy2 h3 h4 hn hdl hrl he
                    go_wp2_with fail
                    refine (RNumberOf_any (t.extract dn k) 9 (by decide) wr).mono ?_
                    rintro e w1 ⟨rfl, rfl⟩
                    rw [HNZ.out]
                    go_wp2_with (first | (at_builtin; refine wpList_append_own _ rfl _ _ 37 rfl w.heap.size 9 i0 (.string ByteArray.empty) 1 16 Tryd.underlying37 hi hz0 hz1 hz2 rfl (by decide) _ _ _ rfl (hrow.out.alloc _) ⟨wr.heap.size, 0, none⟩ 1 1 [.string (t.extract (k + 1) (k + 1 + n))] rfl rfl (cell_one_new _ _ _) (by simp [Value.oneCell']) (by unfold maxLen; omega) (by omega) (by simp; omega) ?_; intro v5 w5 ho5 hg5 _) | fail)
                    go_roundg (t.size - (k + 3 + n))
                    case measure => omega
                    case rel => exact ⟨k + 3 + n, _, by go_num, by omega, rfl, HST2, HC2.out, Lib.hid (vt_snocE ho5 HXS.out), Lib.hid (below_append hB.out hB.out.size hrow.out hg5)⟩
                  · have h4n : ¬ t[k + 2 + n].toNat = 46 := fun e => h4 (UInt8.toNat_inj.1 e)
                    have h4i : ((t[k + 2 + n].toNat : Int) != 46) = true := by simp; omega
                    have HE := Lib.hid (read_end hst.out (HZZ.out (by rintro ⟨_, h⟩; rw [H2.out] at h; exact h4 h)) hrow.out hB.out)
                    clear HY HZZ H1 H2 h3 h4 h4n hn hdl hrl he
                    go_wp2_with fail
                    refine (RNumberOf_any (t.extract dn k) 9 (by decide) wr).mono ?_
                    rintro e w1 ⟨rfl, rfl⟩
                    rw [HNZ.out]
                    go_wp2
                    go_ret2
                    exact HE.out
                · have h3n : ¬ t[k + 1 + n].toNat = 10 := fun e => h3 (UInt8.toNat_inj.1 e)
                  have h3i : ((t[k + 1 + n].toNat : Int) != 10) = true := by simp; omega
                  have HE := Lib.hid (read_end hst.out (HZZ.out (by rintro ⟨h, _⟩; rw [H1.out] at h; exact h3 h)) hrow.out hB.out)
                  clear HY HZZ H1 H2 h3 h3n hn hdl hrl he
                  go_wp2_with fail
                  refine (RNumberOf_any (t.extract dn k) 9 (by decide) wr).mono ?_
                  rintro e w1 ⟨rfl, rfl⟩
                  rw [HNZ.out]
                  go_wp2
                  go_ret2
                  exact HE.out
              · have h2i : (t.size : Int) - (k : Int) - 1 < (n : Int) + 2 := by omega
                have HE := Lib.hid (read_end hst.out (oneOf_long HCUT.out n hn (by omega)) hrow.out hB.out)
                clear hn hdl hrl he h2
                go_wp2_with fail
                refine (RNumberOf_any (t.extract dn k) 9 (by decide) wr).mono ?_
                rintro e w1 ⟨rfl, rfl⟩
                rw [HNZ.out]
                go_wp2
                go_ret2
                exact HE.out
            · have h1i : (40000 : Int) < (n : Int) := by omega
              have HE := Lib.hid (read_end hst.out (oneOf_long HCUT.out n hn (by omega)) hrow.out hB.out)
              clear hn hdl hrl he h1
              go_wp2_with fail
              refine (RNumberOf_any (t.extract dn k) 9 (by decide) wr).mono ?_
              rintro e w1 ⟨rfl, rfl⟩
              rw [HNZ.out]
              go_wp2
              go_ret2
              exact HE.out
        · have hen : ¬ t[k].toNat = 58 := fun e => he (UInt8.toNat_inj.1 e)
          have hei : ((t[k].toNat : Int) != 58) = true := by simp; omega
          have HNO : Hid (∀ j (hj : j < t.data.toList.length), dn ≤ j → j < k + 1 → t.data.toList[j] ≠ 58) := Lib.hid fun j hj h1 h2 => by
            rcases Nat.lt_or_ge j k with h | h
            · exact hno.out j hj h1 h
            · obtain rfl : j = k := by omega
              exact he
          clear he hen
          go_wp2
          go_round
          case rel => exact ⟨k + 1, by go_num, by omega, hkl, HNO⟩
          case measure => simp [intOf]; omega
      · obtain rfl : k = t.size := by omega
        have hno' : oneOf (t.data.toList.drop dn) = none := oneOf_none1 (byteCut_end _ _ fun j hj h1 => hno.out j hj h1 (by rw [HZ.out]; exact hj))
        have HE := Lib.hid (read_end hst.out hno' hrow.out hB.out)
        go_wp2
        go_ret2
        exact HE.out
end Go.Proofs.YtpacalklcdlhoaaDoor
/- Walk of the reference's Recover on a tape. No conditions but bounds. -/
namespace Go.Proofs.YtpacalklcdlhoaaDoor
open Go.RowKit Go.Lib

def MRcPost (m : Nat) (s : DSt) (w : World) (e : Ending) (w' : World) : Prop :=
  ∃ v, e = .returned v ∧ w'.ownsRow w.heap.size 9 1 v (readAll s.b).length ((readAll s.b).map VT) ∧ MPost m (rcSt s) w w'
set_option maxRecDepth 100000 in
set_option maxHeartbeats 1000000 in
theorem RTRecover_any (m : Nat) (s : DSt) (hb : s.b.length ≤ 2 ^ 30) (w : World) (h : MAt m s w) :
    Calls Tryd.prog 34 #[.pointer (some ⟨m, 0, none⟩)] w (MRcPost m s w) := by
  obtain ⟨b, off, cut⟩ := s
  simp only at hb
  have hml := h.lt
  obtain ⟨c0, c1, c2, f0, f1, f2⟩ := h.cells
  have HM := Lib.hid h
  have HSZ : Hid ((bs b).size ≤ 2 ^ 30) := Lib.hid (by rw [bs_size]; exact hb)
  clear h
  go_enter Tryd.func34, Tryd.ntmps34
  go_wp2_with fail
  refine (RReadTape_any (bs b) HSZ.out w).mono ?_
  rintro e w2 ⟨vr, rfl, hrow, hB2⟩
  rw [bs_toList] at hrow
  have hlen : ((recsOf (readAll (bs b).data.toList)).length : Nat) = (recsOf (readAll b)).length := by rw [bs_toList]
  rw [hlen]
  obtain ⟨htk, hle⟩ := readAll_take b
  have HM2 := Lib.hid (HM.out.below hB2)
  obtain ⟨c0, c1, c2, f0, f1, f2⟩ := HM2.out.cells
  have HX : Hid ((bs b).extract 0 (recsOf (readAll b)).length = bs (recsOf (readAll b))) := Lib.hid (by rw [extract_bs, bs_toList, htk]; simp)
  have HR := Lib.hid hrow
  have HB2 := Lib.hid hB2
  have hq1 : ((recsOf (readAll b)).length : Int) ≤ ((bs b).size : Int) := by rw [bs_size]; omega
  generalize hq : (recsOf (readAll b)).length = q at *
  have hq0 : (0 : Int) ≤ (q : Int) := by omega
  clear hlen htk hrow hB2 hle hq
  go_wp2
  go_ret
  refine ⟨vr, rfl, own_set (own_set (own_set HR.out hml) hml) hml, ?_, (((Two.of_below HB2.out).setCell 0 _).setCell 1 _).setCell 2 _⟩
  rw [HX.out]
  exact ((HM2.out.set0 (recsOf (readAll b))).set1 false).set2 (-1)
end Go.Proofs.YtpacalklcdlhoaaDoor
/- A disk and the reference's tape side by side, in the same state; acts on them. Conditions as named. -/
namespace Go.Proofs.YtpacalklcdlhoaaDoor
open Go.RowKit Go.Lib

structure ActsW (a : Nat → Addr) (W : World) : Prop where
  t : TapW W
  e : Sents a W
structure ActIn (a : Nat → Addr) (W : World) (d g m : Nat) (s : DSt) (w : World) : Prop where
  din : DIn a W d g s w
  tp : MAt m s w
  md : m ≠ d
  mg : m ≠ g
  mW : W.heap.size ≤ m
theorem DIn.model {a : Nat → Addr} {W w w' : World} {d g m : Nat} {s : DSt} (h : DIn a W d g s w) (k : Two m m w w') (md : m ≠ d) (mg : m ≠ g) (mW : W.heap.size ≤ m) : DIn a W d g s w' := by
  obtain ⟨v, h0⟩ := h.is
  exact ⟨h.t, h.e, h.b.trans (k.below mW mW h.b.size), h.hd, h.hg, ⟨v, h0.keep (k.block d h0.lt (Ne.symm md) (Ne.symm md)) (k.block g h0.buf.lt (Ne.symm mg) (Ne.symm mg))⟩⟩
theorem ActIn.below {a : Nat → Addr} {W w w' : World} {d g m : Nat} {s : DSt} (h : ActIn a W d g m s w) (k : Below w.heap.size w w') : ActIn a W d g m s w' := ⟨h.din.below k, h.tp.below k, h.md, h.mg, h.mW⟩
theorem ActIn.disk {a : Nat → Addr} {W w w' : World} {d g m : Nat} {s s' : DSt} (h : ActIn a W d g m s w) (p : DPost d g s' w w') : ∃ g', DIn a W d g' s' w' ∧ MAt m s w' ∧ m ≠ g' ∧ Two d g w w' := by
  obtain ⟨g', h1, h2, h3⟩ := h.din.post p
  refine ⟨g', h1, (h3.block m h.tp.lt h.md h.mg).trans h.tp, ?_, h3⟩
  have := h.tp.lt; have := h.mg
  rcases h2 with rfl | h2
  · assumption
  · omega
theorem ActIn.both {a : Nat → Addr} {W w w' : World} {d g m : Nat} {s' : DSt} (h : DIn a W d g s' w) (md : m ≠ d) (mg : m ≠ g) (mW : W.heap.size ≤ m) (p : MPost m s' w w') : ActIn a W d g m s' w' := ⟨h.model p.2 md mg mW, p.1, md, mg, mW⟩
structure ActSt (k : Nat) (s : DSt) : Prop where
  len : s.b.length ≤ 2000 + k * 212
  c0 : -1 ≤ s.cut
  c1 : s.cut ≤ 9223372036854775807
theorem ActSt.append {k : Nat} {s : DSt} (h : ActSt k s) (x : Bytes) (hx : x.length ≤ 200 ∨ x.length = 40001) : ActSt (k + 1) (apSt s x) := by
  have h1 := h.len
  have h2 := apSt_cut s x h.c0 h.c1
  rcases hx with hx | hx
  · have h3 := apSt_length s x (by omega)
    exact ⟨by omega, h2.1, h2.2⟩
  · have : apSt s x = s := by unfold apSt; rw [if_pos (by omega)]
    rw [this]
    exact ⟨by omega, h.c0, h.c1⟩
theorem ActSt.cut {k : Nat} {s : DSt} (h : ActSt k s) (n : Int) (hn : n ≤ 9223372036854775807) : ActSt (k + 1) (cutSt s n) := by
  have h1 := h.len
  unfold cutSt
  split
  · exact ⟨by omega, h.c0, h.c1⟩
  · split
    · exact ⟨by omega, h.c0, h.c1⟩
    · exact ⟨by simp only; omega, by simp only; omega, hn⟩
theorem ActSt.on {k : Nat} {s : DSt} (h : ActSt k s) : ActSt (k + 1) ⟨s.b, false, -1⟩ := by
  have h1 := h.len
  exact ⟨by simp only; omega, by simp only; omega, by simp only; omega⟩
theorem ActSt.recover {k : Nat} {s : DSt} (h : ActSt k s) : ActSt (k + 1) (rcSt s) := by
  have h1 := h.len
  have h2 := (readAll_take s.b).2
  unfold rcSt
  exact ⟨by simp only; omega, by simp only; omega, by simp only; omega⟩
theorem codedB_same (c : Int) : codedB c c (-1) = true := by unfold codedB; simp
theorem apNo_lt (s : DSt) (x : Bytes) : apNo s x < 12 := by
  unfold apNo
  split
  · decide
  · split
    · decide
    · split <;> decide
theorem errV_ap {a : Nat → Addr} {w : World} (h : Sents a w) (s : DSt) (x : Bytes) : ErrV a (errOf a (apNo s x)) (apCode s x) (-1) w := by
  unfold errOf apCode
  by_cases h0 : apNo s x = 0
  · rw [if_pos h0, if_pos h0]; exact ErrV.none a w
  · rw [if_neg h0, if_neg h0]; exact ErrV.sent h _ (apNo_lt s x)
/-- what a cut says, and the state behind it -/
theorem cut_post {a : Nat → Addr} {d g : Nat} {b : Bytes} {off : Bool} {cut n : Int} {w w' : World} {r : Value} (hd : DiskIs d g b off cut w) (p : CutPost a d g b off n w (.returned r) w') :
    (∀ w0, Sents a w0 → ErrV a r (cutNo ⟨b, off, cut⟩ n) (-1) w0) ∧ DPost d g (cutSt ⟨b, off, cut⟩ n) w w' := by
  obtain ⟨r', hr, p⟩ := p
  cases hr
  unfold cutNo cutSt
  rcases p with ⟨h1, rfl, rfl⟩ | ⟨h1, rfl, rfl, rfl⟩ | ⟨h1, rfl, rfl, h2, h3⟩
  · rw [if_pos h1, if_pos h1]; exact ⟨fun w0 h => ErrV.sent h 1 (by decide), g, hd, .inl rfl, Two.refl _ _ _⟩
  · have h0 : ¬ n < 0 := by omega
    rw [if_neg h0, if_neg h0]; exact ⟨fun w0 h => ErrV.sent h 11 (by decide), g, hd, .inl rfl, Two.refl _ _ _⟩
  · have h0 : ¬ n < 0 := by omega
    rw [if_neg h0, if_neg h0]; exact ⟨fun w0 _ => ErrV.none a w0, g, h2, .inl rfl, h3⟩
/-! ### the acts, as they are read -/
structure Wr where
  kind : Bytes
  s : Bytes
  n : Int
def WrRd (w : World) (B : Nat) (v : Value) (l : List Wr) : Prop :=
  ∃ A c, v = .slice A l.length c ∧ l.length ≤ c ∧ (0 < l.length → ∃ g o, A = some ⟨g, o, none⟩ ∧ g < B ∧ ∀ k (hk : k < l.length),
    w.cell? ⟨g, o + k * 3, none⟩ = some (VT l[k].kind) ∧ w.cell? ⟨g, o + k * 3 + 1, none⟩ = some (VT l[k].s) ∧ w.cell? ⟨g, o + k * 3 + 2, none⟩ = some (.int .i64 l[k].n))
/-- the act that is looked at lies in block b -/
def ARow (b : Nat) (K X : Bytes) (n : Int) (w : World) : Prop := w.heap[b]? = some (.cells #[VT K, VT X, .int .i64 n] 62 (0, 0))
theorem ARow.cells {b : Nat} {K X : Bytes} {n : Int} {w : World} (h : ARow b K X n w) : w.cell? ⟨b, 0, none⟩ = some (.string (bs K)) ∧ w.cell? ⟨b, 1, none⟩ = some (.string (bs X)) ∧ w.cell? ⟨b, 2, none⟩ = some (.int .i64 n) :=
  ⟨by rw [cell_of_row w b 0 _ _ _ h]; rfl, by rw [cell_of_row w b 1 _ _ _ h]; rfl, by rw [cell_of_row w b 2 _ _ _ h]; rfl⟩
theorem ARow.lt {b : Nat} {K X : Bytes} {n : Int} {w : World} (h : ARow b K X n w) : b < w.heap.size := (Array.getElem?_eq_some_iff.1 h).1
theorem ARow.below {b : Nat} {K X : Bytes} {n : Int} {w w' : World} (h : ARow b K X n w) (hb : Below w.heap.size w w') : ARow b K X n w' := (hb.block b h.lt).trans h
theorem ARow.two {b d g : Nat} {K X : Bytes} {n : Int} {w w' : World} (h : ARow b K X n w) (k : Two d g w w') (h1 : b ≠ d) (h2 : b ≠ g) : ARow b K X n w' := (k.block b h.lt h1 h2).trans h
end Go.Proofs.YtpacalklcdlhoaaDoor

/- Walks of tape.record, tape.one. Condition: the tables, MaxLen and strconv's two error variables lie as named (TapW). -/
import Derived.Test.YtpacalklcdlhoaaDoorPlainT
import Derived.Test.YtpacalklcdlhoaaDoorPrL
namespace Go.Proofs.YtpacalklcdlhoaaDoor
open Go.RowKit Go.Lib

structure TapW (w : World) : Prop where
  t : Tabs w
  m : MaxL w
  p : Perrs w
theorem TapW.below {w w' : World} (h : TapW w) (hb : Below w.heap.size w w') : TapW w' := ⟨h.t.below hb, h.m.below hb, h.p.below hb⟩
theorem colonCut_eq (l : Bytes) : colonCut l = byteCut 58 l := by
  induction l with
  | nil => rfl
  | cons c l ih => simp only [colonCut, byteCut, ih]
theorem recOf_itoa (s : Bytes) : recOf s = itoa (s.length : Int) ++ ([58] ++ (s ++ [10, 46])) := by rw [itoa_nat]; rfl
theorem record_any (t : ByteArray) (ht : t.size ≤ 2 ^ 40) (w : World) (h : TapW w) :
    Calls Tryd.prog 56 #[.string t] w fun e w' => e = .returned (.string (bs (recOf t.data.toList))) ∧ Below w.heap.size w w' := by
  have HT := Lib.hid h.t
  have hz := size_toList t
  have hcat : bs (itoa (t.size : Int)) ++ ⟨#[58]⟩ ++ t ++ ⟨#[10, 46]⟩ = bs (recOf t.data.toList) := by
    rw [recOf_itoa, ← hz]
    apply ba_ext
    simp [bs_toList]
  have HC := Lib.hid hcat
  have hi21 : (bs (itoa (t.size : Int))).size ≤ 21 := by rw [bs_size, itoa_nat, decDigits_length]; exact Nat.le_trans (nDigits_le20 _ (by omega)) (by decide)
  clear h hcat hz
  go_enter Tryd.func56, Tryd.ntmps56
  go_wp2_with fail
  refine (Itoa_any (t.size : Int) (by omega) (by omega) w HT.out).mono ?_
  rintro e w1 ⟨rfl, hb⟩
  go_wp2
  go_ret
  exact ⟨by rw [← HC.out]; rfl, hb⟩
theorem bs_list (l : Bytes) : (bs l).toList = l := by rw [ByteArray.toList_eq, bs_toList]
/-- what one says -/
def oneRes (o : Option Bytes) : Value := match o with
  | some s => .tuple #[.string (bs s), .bool true]
  | none => .tuple #[.string ⟨#[]⟩, .bool false]
theorem oneOf_none1 {b : Bytes} (h : byteCut 58 b = none) : oneOf b = none := by unfold oneOf; rw [colonCut_eq, h]
theorem oneOf_none2 {b d r : Bytes} (h : byteCut 58 b = some (d, r)) (h2 : atoiO d = none) : oneOf b = none := by
  unfold oneOf; rw [colonCut_eq, h]
  simp only
  unfold atoiO at h2
  split
  · next n hn => rw [hn] at h2; cases h2
  · rfl
theorem oneOf_at {b d r : Bytes} {v : Int} (h : byteCut 58 b = some (d, r)) (h2 : atoiO d = some v) :
    oneOf b = if d.length ≤ 9 ∧ 0 ≤ v ∧ itoa v = d ∧ v ≤ 40000 ∧ v.toNat + 2 ≤ r.length ∧ (r.drop v.toNat).take 2 = [10, 46] then some (r.take v.toNat) else none := by
  unfold oneOf; rw [colonCut_eq, h]
  simp only
  rw [atoiO_ok h2]
set_option maxRecDepth 100000 in
set_option maxHeartbeats 4000000 in
theorem one_any (t : ByteArray) (ht : t.size ≤ 2 ^ 30) (w : World) (h : TapW w) :
    Calls Tryd.prog 58 #[.string t] w fun e w' => e = .returned (oneRes (oneOf t.data.toList)) ∧ Below w.heap.size w w' := by
  have HW := Lib.hid h
  clear h
  cases hc : byteCut 58 t.data.toList with
  | none =>
    have HO := Lib.hid (oneOf_none1 hc)
    have HC := Lib.hid hc
    clear hc
    cases hv : atoiO t.data.toList with
    | none =>
      have HV := Lib.hid hv
      clear hv
      go_enter Tryd.func58, Tryd.ntmps58
      go_wp2_with fail
      refine (SCut_none t 58 ht HC.out w HW.out.m).mono ?_
      rintro e w1 ⟨rfl, hb⟩
      have HW1 := Lib.hid (HW.out.below hb)
      go_wp2_with fail
      refine (Atoi_none t (by omega) HV.out w1 HW1.out.p).mono ?_
      rintro e w2 ⟨x, T, q, rfl, hb2⟩
      have hb3 := hb.trans (hb2.mono hb.size)
      go_wp2
      go_ret2
      exact ⟨by rw [HO.out]; rfl, hb3⟩
    | some v =>
      have HV := Lib.hid hv
      clear hv
      go_enter Tryd.func58, Tryd.ntmps58
      go_wp2_with fail
      refine (SCut_none t 58 ht HC.out w HW.out.m).mono ?_
      rintro e w1 ⟨rfl, hb⟩
      go_wp2_with fail
      refine (Atoi_some t (by omega) v HV.out w1).mono ?_
      rintro e w2 ⟨rfl, hb2⟩
      have hb3 := hb.trans (hb2.mono hb.size)
      go_wp2
      go_ret2
      exact ⟨by rw [HO.out]; rfl, hb3⟩
  | some p =>
    obtain ⟨d, r⟩ := p
    have HC := Lib.hid hc
    have hlen : d.length + r.length + 1 = t.size := by
      rw [size_toList, (byteCut_some 58 _ d r hc).1]; simp; omega
    have hds : (bs d).size = d.length := bs_size d
    have hrs : (bs r).size = r.length := bs_size r
    cases hv : atoiO d with
    | none =>
      have HO := Lib.hid (oneOf_none2 hc hv)
      have HV : Hid (atoiO (bs d).data.toList = none) := Lib.hid (by rw [bs_toList]; exact hv)
      have HD := Lib.hid (show (bs d).size ≤ 2 ^ 40 by omega)
      clear hc hv hlen hds hrs
      go_enter Tryd.func58, Tryd.ntmps58
      go_wp2_with fail
      refine (SCut_some t 58 ht d r HC.out w HW.out.m).mono ?_
      rintro e w1 ⟨rfl, hb⟩
      have HW1 := Lib.hid (HW.out.below hb)
      go_wp2_with fail
      refine (Atoi_none (bs d) HD.out HV.out w1 HW1.out.p).mono ?_
      rintro e w2 ⟨x, T, q, rfl, hb2⟩
      have hb3 := hb.trans (hb2.mono hb.size)
      go_wp2
      go_ret2
      exact ⟨by rw [HO.out]; rfl, hb3⟩
    | some v =>
      have HO := Lib.hid (oneOf_at hc hv)
      obtain ⟨b0, b1⟩ := atoiO_bounds hv
      have HV : Hid (atoiO (bs d).data.toList = some v) := Lib.hid (by rw [bs_toList]; exact hv)
      have HD := Lib.hid (show (bs d).size ≤ 2 ^ 40 by omega)
      have hR := Lib.hid hlen
      clear hc hv
      by_cases h1 : d.length ≤ 9
      · have h1i : ((bs d).size : Int) ≤ 9 := by omega
        by_cases h2 : 0 ≤ v
        · by_cases h3 : itoa v = d
          · have h3i : ((bs (itoa v)).toList == (bs d).toList) = true := by rw [bs_beq]; exact decide_eq_true h3
            by_cases h4 : v ≤ 40000
            · have h4i : ¬ (40000 : Int) < v := by omega
              by_cases h5 : v.toNat + 2 ≤ r.length
              · have h5i : ¬ ((bs r).size : Int) < v + 2 := by omega
                have h5j : v + 2 ≤ ((bs r).size : Int) := by omega
                have hx : (bs r).extract v.toNat (v + 2).toNat = bs ((r.drop v.toNat).take 2) := by
                  rw [extract_bs, bs_toList, show (v + 2).toNat = v.toNat + 2 by omega, List.drop_take]; simp
                have hx2 : (bs r).extract 0 v.toNat = bs (r.take v.toNat) := by rw [extract_bs, bs_toList]; simp
                by_cases h6 : (r.drop v.toNat).take 2 = [10, 46]
                · have HJ : Hid (oneOf t.data.toList = some (r.take v.toNat)) := Lib.hid (by rw [HO.out, if_pos ⟨h1, h2, h3, h4, h5, h6⟩])
                  have HX2 := Lib.hid hx2
                  have h6i : (((bs r).extract v.toNat (v + 2).toNat).toList == [10, 46]) = true := by rw [hx, h6, bs_list]; rfl
                  clear hx hx2 h3 h6 hlen hds hrs h5
                  go_enter Tryd.func58, Tryd.ntmps58
                  go_wp2_with fail
                  refine (SCut_some t 58 ht d r HC.out w HW.out.m).mono ?_
                  rintro e w1 ⟨rfl, hb⟩
                  have HW1 := Lib.hid (HW.out.below hb)
                  go_wp2_with fail
                  refine (Atoi_some (bs d) HD.out v HV.out w1).mono ?_
                  rintro e w2 ⟨rfl, hb2⟩
                  have HW2 := Lib.hid (HW1.out.below hb2)
                  have hb3 := hb.trans (hb2.mono hb.size)
                  clear hb hb2
                  go_wp2_with fail
                  refine (Itoa_any v b0 b1 w2 HW2.out.t).mono ?_
                  rintro e w3 ⟨rfl, hb4⟩
                  have hb5 := hb3.trans (hb4.mono hb3.size)
                  clear hb3 hb4
                  go_wp2
                  go_ret2
                  exact ⟨by rw [HJ.out, show oneRes (some (r.take v.toNat)) = .tuple #[.string (bs (r.take v.toNat)), .bool true] from rfl, ← HX2.out]; rfl, hb5⟩
                · have HJ : Hid (oneOf t.data.toList = none) := Lib.hid (by rw [HO.out, if_neg (by rintro ⟨a1, a2, a3, a4, a5, a6⟩; exact h6 a6)])
                  have h6i : (((bs r).extract v.toNat (v + 2).toNat).toList == [10, 46]) = false := by rw [hx, bs_list]; exact beq_eq_false_iff_ne.2 h6
                  clear hx hx2 h3 h6 hlen hds hrs h5
                  go_enter Tryd.func58, Tryd.ntmps58
                  go_wp2_with fail
                  refine (SCut_some t 58 ht d r HC.out w HW.out.m).mono ?_
                  rintro e w1 ⟨rfl, hb⟩
                  have HW1 := Lib.hid (HW.out.below hb)
                  go_wp2_with fail
                  refine (Atoi_some (bs d) HD.out v HV.out w1).mono ?_
                  rintro e w2 ⟨rfl, hb2⟩
                  have HW2 := Lib.hid (HW1.out.below hb2)
                  have hb3 := hb.trans (hb2.mono hb.size)
                  clear hb hb2
                  go_wp2_with fail
                  refine (Itoa_any v b0 b1 w2 HW2.out.t).mono ?_
                  rintro e w3 ⟨rfl, hb4⟩
                  have hb5 := hb3.trans (hb4.mono hb3.size)
                  clear hb3 hb4
                  go_wp2
                  go_ret2
                  exact ⟨by rw [HJ.out]; rfl, hb5⟩
              · have HJ : Hid (oneOf t.data.toList = none) := Lib.hid (by rw [HO.out, if_neg (by rintro ⟨a1, a2, a3, a4, a5, a6⟩; exact h5 a5)])
                have h5i : ((bs r).size : Int) < v + 2 := by omega
                clear h3 hlen hds hrs h5
                go_enter Tryd.func58, Tryd.ntmps58
                go_wp2_with fail
                refine (SCut_some t 58 ht d r HC.out w HW.out.m).mono ?_
                rintro e w1 ⟨rfl, hb⟩
                have HW1 := Lib.hid (HW.out.below hb)
                go_wp2_with fail
                refine (Atoi_some (bs d) HD.out v HV.out w1).mono ?_
                rintro e w2 ⟨rfl, hb2⟩
                have HW2 := Lib.hid (HW1.out.below hb2)
                have hb3 := hb.trans (hb2.mono hb.size)
                clear hb hb2
                go_wp2_with fail
                refine (Itoa_any v b0 b1 w2 HW2.out.t).mono ?_
                rintro e w3 ⟨rfl, hb4⟩
                have hb5 := hb3.trans (hb4.mono hb3.size)
                clear hb3 hb4
                go_wp2
                go_ret2
                exact ⟨by rw [HJ.out]; rfl, hb5⟩
            · have HJ : Hid (oneOf t.data.toList = none) := Lib.hid (by rw [HO.out, if_neg (by rintro ⟨a1, a2, a3, a4, a5, a6⟩; exact h4 a4)])
              have h4i : (40000 : Int) < v := by omega
              clear h3 hlen hds hrs
              go_enter Tryd.func58, Tryd.ntmps58
              go_wp2_with fail
              refine (SCut_some t 58 ht d r HC.out w HW.out.m).mono ?_
              rintro e w1 ⟨rfl, hb⟩
              have HW1 := Lib.hid (HW.out.below hb)
              go_wp2_with fail
              refine (Atoi_some (bs d) HD.out v HV.out w1).mono ?_
              rintro e w2 ⟨rfl, hb2⟩
              have HW2 := Lib.hid (HW1.out.below hb2)
              have hb3 := hb.trans (hb2.mono hb.size)
              clear hb hb2
              go_wp2_with fail
              refine (Itoa_any v b0 b1 w2 HW2.out.t).mono ?_
              rintro e w3 ⟨rfl, hb4⟩
              have hb5 := hb3.trans (hb4.mono hb3.size)
              clear hb3 hb4
              go_wp2
              go_ret2
              exact ⟨by rw [HJ.out]; rfl, hb5⟩
          · have HJ : Hid (oneOf t.data.toList = none) := Lib.hid (by rw [HO.out, if_neg (by rintro ⟨a1, a2, a3, a4, a5, a6⟩; exact h3 a3)])
            have h3i : ((bs (itoa v)).toList == (bs d).toList) = false := by rw [bs_beq]; exact decide_eq_false h3
            clear h3 hlen hds hrs
            go_enter Tryd.func58, Tryd.ntmps58
            go_wp2_with fail
            refine (SCut_some t 58 ht d r HC.out w HW.out.m).mono ?_
            rintro e w1 ⟨rfl, hb⟩
            have HW1 := Lib.hid (HW.out.below hb)
            go_wp2_with fail
            refine (Atoi_some (bs d) HD.out v HV.out w1).mono ?_
            rintro e w2 ⟨rfl, hb2⟩
            have HW2 := Lib.hid (HW1.out.below hb2)
            have hb3 := hb.trans (hb2.mono hb.size)
            clear hb hb2
            go_wp2_with fail
            refine (Itoa_any v b0 b1 w2 HW2.out.t).mono ?_
            rintro e w3 ⟨rfl, hb4⟩
            have hb5 := hb3.trans (hb4.mono hb3.size)
            clear hb3 hb4
            go_wp2
            go_ret2
            exact ⟨by rw [HJ.out]; rfl, hb5⟩
        · have HJ : Hid (oneOf t.data.toList = none) := Lib.hid (by rw [HO.out, if_neg (by rintro ⟨a1, a2, a3, a4, a5, a6⟩; exact h2 a2)])
          have h2i : v < 0 := by omega
          clear hlen hds hrs h2
          go_enter Tryd.func58, Tryd.ntmps58
          go_wp2_with fail
          refine (SCut_some t 58 ht d r HC.out w HW.out.m).mono ?_
          rintro e w1 ⟨rfl, hb⟩
          have HW1 := Lib.hid (HW.out.below hb)
          go_wp2_with fail
          refine (Atoi_some (bs d) HD.out v HV.out w1).mono ?_
          rintro e w2 ⟨rfl, hb2⟩
          have HW2 := Lib.hid (HW1.out.below hb2)
          have hb3 := hb.trans (hb2.mono hb.size)
          clear hb hb2
          have hb5 := hb3
          clear hb3
          go_wp2
          go_ret2
          exact ⟨by rw [HJ.out]; rfl, hb5⟩
      · have HJ : Hid (oneOf t.data.toList = none) := Lib.hid (by rw [HO.out, if_neg (by rintro ⟨a1, a2, a3, a4, a5, a6⟩; exact h1 a1)])
        have h1i : ¬ ((bs d).size : Int) ≤ 9 := by omega
        clear hlen hds hrs h1
        go_enter Tryd.func58, Tryd.ntmps58
        go_wp2_with fail
        refine (SCut_some t 58 ht d r HC.out w HW.out.m).mono ?_
        rintro e w1 ⟨rfl, hb⟩
        have HW1 := Lib.hid (HW.out.below hb)
        go_wp2_with fail
        refine (Atoi_some (bs d) HD.out v HV.out w1).mono ?_
        rintro e w2 ⟨rfl, hb2⟩
        have HW2 := Lib.hid (HW1.out.below hb2)
        have hb3 := hb.trans (hb2.mono hb.size)
        clear hb hb2
        have hb5 := hb3
        clear hb3
        go_wp2
        go_ret2
        exact ⟨by rw [HJ.out]; rfl, hb5⟩
end Go.Proofs.YtpacalklcdlhoaaDoor

/- Walk of the law TrailKeeps. Condition: the sentinels lie as the text lays them (Sents). -/
import Derived.Test.YtbokckjlgjnnjaaGreatDoorTrZ
namespace Go.Proofs.YtbokckjlgjnnjaaGreatDoor
open Go.RowKit Go.Lib
set_option maxRecDepth 100000 in
set_option maxHeartbeats 8000000 in
theorem TrKp_a (a : Nat → Addr) (v : Value) (l : EntL) (t : ByteArray) (day many : Int) (hl : l.length ≤ maxLen) (ho : ∀ x ∈ l, EntO x) (hts : t.size ≤ maxLen) (h1 : longT l = true) (w : World) (hv : RdT w w.heap.size v l) (h : Sents a w) :
    Calls Tryz.prog 3 #[v, .string t, .int .i64 day, .int .i64 many] w fun x w' => x = .returned (.bool true) ∧ Below w.heap.size w w' := by
  obtain ⟨A, c, hvA, hlc, S, hS, hx⟩ := hv.form
  subst hvA
  have H := Lib.hid h
  have HV := Lib.hid (fun w' (h : Below w.heap.size w w') => (hv.keep h (Nat.le_refl _) : RdT w' w.heap.size _ l))
  have TR := Lib.hid (Trailed_any a w h)
  have HEB := Lib.hid (fun x hx => (ho x hx).toEB)
  have H1 := Lib.hid h1
  clear hv h hS hx h1 ho
  go_enter Tryz.func3, Tryz.ntmps3
  go_wp2_with fail
  refine TR.out.mono ?_
  rintro z w1 ⟨rfl, hb1⟩
  have HB1 := Lib.hid hb1
  clear hb1
  go_wp2_with fail
  refine (LongTrail_any _ l HEB.out hl w.heap.size w1 (HV.out _ HB1.out) HB1.out.size).mono ?_
  rintro z w2 ⟨rfl, hb2⟩
  have HB2 := Lib.hid (HB1.out.trans (hb2.mono HB1.out.size))
  clear hb2
  rw [H1.out]
  go_wp2
  go_ret
  exact ⟨rfl, HB2.out⟩
set_option maxRecDepth 100000 in
set_option maxHeartbeats 8000000 in
theorem TrKp_b (a : Nat → Addr) (v : Value) (l : EntL) (t : ByteArray) (day many : Int) (hl : l.length ≤ maxLen) (ho : ∀ x ∈ l, EntO x) (hts : t.size ≤ maxLen) (h1 : longT l = false) (h3 : 30 < t.size) (w : World) (hv : RdT w w.heap.size v l) (h : Sents a w) :
    Calls Tryz.prog 3 #[v, .string t, .int .i64 day, .int .i64 many] w fun x w' => x = .returned (.bool true) ∧ Below w.heap.size w w' := by
  obtain ⟨A, c, hvA, hlc, S, hS, hx⟩ := hv.form
  subst hvA
  have H := Lib.hid h
  have HV := Lib.hid (fun w' (h : Below w.heap.size w w') => (hv.keep h (Nat.le_refl _) : RdT w' w.heap.size _ l))
  have TR := Lib.hid (Trailed_any a w h)
  have HEB := Lib.hid (fun x hx => (ho x hx).toEB)
  have H1 := Lib.hid h1
  have h3i : (30 : Int) < (t.size : Int) := by omega
  clear hv h hS hx h1 ho h3
  go_enter Tryz.func3, Tryz.ntmps3
  go_wp2_with fail
  refine TR.out.mono ?_
  rintro z w1 ⟨rfl, hb1⟩
  have HB1 := Lib.hid hb1
  clear hb1
  go_wp2_with fail
  refine (LongTrail_any _ l HEB.out hl w.heap.size w1 (HV.out _ HB1.out) HB1.out.size).mono ?_
  rintro z w2 ⟨rfl, hb2⟩
  have HB2 := Lib.hid (HB1.out.trans (hb2.mono HB1.out.size))
  clear hb2
  rw [H1.out]
  go_wp2
  go_ret
  exact ⟨rfl, HB2.out⟩
set_option maxRecDepth 100000 in
set_option maxHeartbeats 8000000 in
theorem TrKp_c (a : Nat → Addr) (v : Value) (l : EntL) (t : ByteArray) (day many : Int) (hl : l.length ≤ maxLen) (ho : ∀ x ∈ l, EntO x) (hts : t.size ≤ maxLen) (h1 : longT l = false) (h3 : ¬ 30 < t.size) (h4 : many < 1) (w : World) (hv : RdT w w.heap.size v l) (h : Sents a w) :
    Calls Tryz.prog 3 #[v, .string t, .int .i64 day, .int .i64 many] w fun x w' => x = .returned (.bool true) ∧ Below w.heap.size w w' := by
  obtain ⟨A, c, hvA, hlc, S, hS, hx⟩ := hv.form
  subst hvA
  have H := Lib.hid h
  have HV := Lib.hid (fun w' (h : Below w.heap.size w w') => (hv.keep h (Nat.le_refl _) : RdT w' w.heap.size _ l))
  have TR := Lib.hid (Trailed_any a w h)
  have HEB := Lib.hid (fun x hx => (ho x hx).toEB)
  have H1 := Lib.hid h1
  have h3i : ¬ (30 : Int) < (t.size : Int) := by omega
  clear hv h hS hx h1 ho h3
  go_enter Tryz.func3, Tryz.ntmps3
  go_wp2_with fail
  refine TR.out.mono ?_
  rintro z w1 ⟨rfl, hb1⟩
  have HB1 := Lib.hid hb1
  clear hb1
  go_wp2_with fail
  refine (LongTrail_any _ l HEB.out hl w.heap.size w1 (HV.out _ HB1.out) HB1.out.size).mono ?_
  rintro z w2 ⟨rfl, hb2⟩
  have HB2 := Lib.hid (HB1.out.trans (hb2.mono HB1.out.size))
  clear hb2
  rw [H1.out]
  go_wp2
  go_ret
  exact ⟨rfl, HB2.out⟩
set_option maxRecDepth 100000 in
set_option maxHeartbeats 8000000 in
theorem TrKp_d (a : Nat → Addr) (v : Value) (l : EntL) (t : ByteArray) (day many : Int) (hl : l.length ≤ maxLen) (ho : ∀ x ∈ l, EntO x) (hts : t.size ≤ maxLen) (h1 : longT l = false) (h3 : ¬ 30 < t.size) (h4 : ¬ many < 1) (h5 : 100 < many) (w : World) (hv : RdT w w.heap.size v l) (h : Sents a w) :
    Calls Tryz.prog 3 #[v, .string t, .int .i64 day, .int .i64 many] w fun x w' => x = .returned (.bool true) ∧ Below w.heap.size w w' := by
  obtain ⟨A, c, hvA, hlc, S, hS, hx⟩ := hv.form
  subst hvA
  have H := Lib.hid h
  have HV := Lib.hid (fun w' (h : Below w.heap.size w w') => (hv.keep h (Nat.le_refl _) : RdT w' w.heap.size _ l))
  have TR := Lib.hid (Trailed_any a w h)
  have HEB := Lib.hid (fun x hx => (ho x hx).toEB)
  have H1 := Lib.hid h1
  have h3i : ¬ (30 : Int) < (t.size : Int) := by omega
  clear hv h hS hx h1 ho h3
  go_enter Tryz.func3, Tryz.ntmps3
  go_wp2_with fail
  refine TR.out.mono ?_
  rintro z w1 ⟨rfl, hb1⟩
  have HB1 := Lib.hid hb1
  clear hb1
  go_wp2_with fail
  refine (LongTrail_any _ l HEB.out hl w.heap.size w1 (HV.out _ HB1.out) HB1.out.size).mono ?_
  rintro z w2 ⟨rfl, hb2⟩
  have HB2 := Lib.hid (HB1.out.trans (hb2.mono HB1.out.size))
  clear hb2
  rw [H1.out]
  go_wp2
  go_ret
  exact ⟨rfl, HB2.out⟩
set_option maxRecDepth 100000 in
set_option maxHeartbeats 8000000 in
theorem TrKp_e (a : Nat → Addr) (v : Value) (l : EntL) (t : ByteArray) (day many : Int) (hl : l.length ≤ maxLen) (ho : ∀ x ∈ l, EntO x) (hts : t.size ≤ maxLen) (h1 : longT l = false) (h3 : ¬ 30 < t.size) (h4 : ¬ many < 1) (h5 : ¬ 100 < many) (hF : (trailFault l).1 ≠ 0) (w : World) (hv : RdT w w.heap.size v l) (h : Sents a w) :
    Calls Tryz.prog 3 #[v, .string t, .int .i64 day, .int .i64 many] w fun x w' => x = .returned (.bool true) ∧ Below w.heap.size w w' := by
  obtain ⟨A, c, hvA, hlc, S, hS, hx⟩ := hv.form
  subst hvA
  have H := Lib.hid h
  have HV := Lib.hid (fun w' (h : Below w.heap.size w w') => (hv.keep h (Nat.le_refl _) : RdT w' w.heap.size _ l))
  have TR := Lib.hid (Trailed_any a w h)
  have HEB := Lib.hid (fun x hx => (ho x hx).toEB)
  have H1 := Lib.hid h1
  have HXL := Lib.hid hx
  have HSL := Lib.hid hS
  have h3i : ¬ (30 : Int) < (t.size : Int) := by omega
  have hsh := longT_short h1
  have hl41 := hsh.1
  have hl6 : l.length ≤ 1000000 := by omega
  have HRB := Lib.hid (fun x hx => (ho x hx).r.toB (hsh.2 x hx))
  have HF := Lib.hid hF
  clear hv h hS hx h1 ho h3 hsh hF
  go_enter Tryz.func3, Tryz.ntmps3
  go_wp2_with fail
  refine TR.out.mono ?_
  rintro z w1 ⟨rfl, hb1⟩
  have HB1 := Lib.hid hb1
  clear hb1
  go_wp2_with fail
  refine (LongTrail_any _ l HEB.out hl w.heap.size w1 (HV.out _ HB1.out) HB1.out.size).mono ?_
  rintro z w2 ⟨rfl, hb2⟩
  have HB2 := Lib.hid (HB1.out.trans (hb2.mono HB1.out.size))
  clear hb2
  rw [H1.out]
  go_wp2_with fail
  refine (AsTrail_any _ l HRB.out hl6 w2 (RdT.more (HV.out _ HB2.out) HB2.out.size)).mono ?_
  rintro z w4 ⟨v4, rfl, hr4, hb4⟩
  obtain ⟨A4, c4, hv4, _⟩ := hr4.form
  subst hv4
  have HB4 := Lib.hid (HB2.out.trans (hb4.mono HB2.out.size))
  have HW := Lib.hid (fun w' (h : Below w4.heap.size w4 w') => (RdT.below hr4 h : RdT w' w'.heap.size _ l))
  have HBW := Lib.hid (fun w' (h : Below w4.heap.size w4 w') => HB4.out.trans (h.mono HB4.out.size))
  have C4 := Lib.hid (Below.refl w4.heap.size w4)
  clear hr4 hb4
  go_wp2_with fail
  refine (TCheck_any a _ l HRB.out hl6 w4 (HW.out _ C4.out) ((H.out.below (HBW.out _ C4.out)).someS _ (by decide))).mono ?_
  rintro z w5 ⟨r5, rfl, hev5, hb5⟩
  have C5 := Lib.hid (C4.out.trans (hb5.mono C4.out.size))
  clear hb5
  obtain ⟨T5, p5, hr5⟩ := hev5.some HF.out
  subst hr5
  clear hev5
  go_wp2
  go_ret
  exact ⟨rfl, HBW.out _ C5.out⟩
set_option maxRecDepth 100000 in
set_option maxHeartbeats 8000000 in
theorem TrKp_m (a : Nat → Addr) (v : Value) (l : EntL) (t : ByteArray) (day many : Int) (hl : l.length ≤ maxLen) (ho : ∀ x ∈ l, EntO x) (hts : t.size ≤ maxLen) (h1 : longT l = false) (h3 : ¬ 30 < t.size) (h4 : ¬ many < 1) (h5 : ¬ 100 < many) (hF : trailFault l = (0, -1)) (w : World) (hv : RdT w w.heap.size v l) (h : Sents a w) :
    Calls Tryz.prog 3 #[v, .string t, .int .i64 day, .int .i64 many] w fun x w' => x = .returned (.bool true) ∧ Below w.heap.size w w' := by
  obtain ⟨A, c, hvA, hlc, S, hS, hx⟩ := hv.form
  subst hvA
  have H := Lib.hid h
  have HV := Lib.hid (fun w' (h : Below w.heap.size w w') => (hv.keep h (Nat.le_refl _) : RdT w' w.heap.size _ l))
  have TR := Lib.hid (Trailed_any a w h)
  have HEB := Lib.hid (fun x hx => (ho x hx).toEB)
  have H1 := Lib.hid h1
  have HXL := Lib.hid hx
  have HSL := Lib.hid hS
  have h3i : ¬ (30 : Int) < (t.size : Int) := by omega
  have hsh := longT_short h1
  have hl41 := hsh.1
  have hl6 : l.length ≤ 1000000 := by omega
  have HRB := Lib.hid (fun x hx => (ho x hx).r.toB (hsh.2 x hx))
  have HF := Lib.hid hF
  clear hv h hS hx h1 ho h3 hsh hF
  have KM := Lib.hid (keep_ok (l := l) (many := many) (by rw [HF.out]) (by omega))
  have KM1 := Lib.hid (keep_ok (l := l) (many := many + 1) (by rw [HF.out]) (by omega))
  have hyf : trailFault (keepL (many + 1) l) = (0, -1) := keepL_fault HF.out _
  have hkk0 : keepRes (keepL (many + 1) l) many = ((0, -1), keepL many l) := by rw [keep_ok (by rw [hyf]) (by omega), keepL_keep (by omega)]
  have KK := Lib.hid hkk0
  have KF := Lib.hid (keepL_fault HF.out many)
  have HYB := Lib.hid (fun x (hx : x ∈ keepL (many + 1) l) => HRB.out x ((keepL_sub _ l).subset hx))
  have HKB := Lib.hid (fun x (hx : x ∈ keepL many l) => HRB.out x ((keepL_sub _ l).subset hx))
  have hyl6 : (keepL (many + 1) l).length ≤ 1000000 := Nat.le_trans (keepL_len _ l) hl6
  have hkl6 : (keepL many l).length ≤ 1000000 := Nat.le_trans (keepL_len _ l) hl6
  have hkly : (keepL many l).length ≤ (keepL (many + 1) l).length := keepL_more l
  have KN := Lib.hid (namesL_keep (many := many) (by omega) l)
  have KL := Lib.hid (fun nm => lastN_keep (many := many) (by omega) nm l)
  clear hyf hkk0
  go_enter Tryz.func3, Tryz.ntmps3
  go_wp2_with fail
  refine TR.out.mono ?_
  rintro z w1 ⟨rfl, hb1⟩
  have HB1 := Lib.hid hb1
  clear hb1
  go_wp2_with fail
  refine (LongTrail_any _ l HEB.out hl w.heap.size w1 (HV.out _ HB1.out) HB1.out.size).mono ?_
  rintro z w2 ⟨rfl, hb2⟩
  have HB2 := Lib.hid (HB1.out.trans (hb2.mono HB1.out.size))
  clear hb2
  rw [H1.out]
  go_wp2_with fail
  refine (AsTrail_any _ l HRB.out hl6 w2 (RdT.more (HV.out _ HB2.out) HB2.out.size)).mono ?_
  rintro z w4 ⟨v4, rfl, hr4, hb4⟩
  obtain ⟨A4, c4, hv4, _⟩ := hr4.form
  subst hv4
  have HB4 := Lib.hid (HB2.out.trans (hb4.mono HB2.out.size))
  have HW := Lib.hid (fun w' (h : Below w4.heap.size w4 w') => (RdT.below hr4 h : RdT w' w'.heap.size _ l))
  have HBW := Lib.hid (fun w' (h : Below w4.heap.size w4 w') => HB4.out.trans (h.mono HB4.out.size))
  have C4 := Lib.hid (Below.refl w4.heap.size w4)
  clear hr4 hb4
  go_wp2_with fail
  refine (TCheck_any a _ l HRB.out hl6 w4 (HW.out _ C4.out) ((H.out.below (HBW.out _ C4.out)).someS _ (by decide))).mono ?_
  rintro z w5 ⟨r5, rfl, hev5, hb5⟩
  have C5 := Lib.hid (C4.out.trans (hb5.mono C4.out.size))
  clear hb5
  obtain ⟨hr5, _⟩ := hev5.nil (by rw [HF.out])
  subst hr5
  clear hev5
  go_wp2_with fail
  refine (TKeep_any a _ l many HRB.out hl6 w5 (HW.out _ C5.out) ((H.out.below (HBW.out _ C5.out)).someS _ (by decide))).mono ?_
  rintro z w6 ⟨v6, r6, rfl, hev6, hrd6, hb6⟩
  rw [KM.out] at hev6 hrd6
  obtain ⟨hr6, _⟩ := hev6.nil rfl
  subst hr6
  obtain ⟨A6, c6, hv6, _⟩ := RdT.form hrd6
  subst hv6
  have C6 := Lib.hid (C5.out.trans (hb6.mono C5.out.size))
  have HT6 := Lib.hid (fun w' (h : Below w6.heap.size w6 w') => (RdT.below hrd6 h : RdT w' w'.heap.size _ (keepL many l)))
  clear hev6 hrd6 hb6
  go_wp2_with fail
  refine (TKeep_any a _ l (many + 1) HRB.out hl6 w6 (HW.out _ C6.out) ((H.out.below (HBW.out _ C6.out)).someS _ (by decide))).mono ?_
  rintro z w7 ⟨v7, r7, rfl, hev7, hrd7, hb7⟩
  rw [KM1.out] at hev7 hrd7
  obtain ⟨hr7, _⟩ := hev7.nil rfl
  subst hr7
  obtain ⟨A7, c7, hv7, _⟩ := RdT.form hrd7
  subst hv7
  have C7 := Lib.hid (C6.out.trans (hb7.mono C6.out.size))
  have K7 := Lib.hid hb7
  have HY7 := Lib.hid hrd7
  clear hev7 hrd7 hb7
  go_wp2_with fail
  refine (TKeep_any a _ (keepL (many + 1) l) many HYB.out hyl6 w7 HY7.out ((H.out.below (HBW.out _ C7.out)).someS _ (by decide))).mono ?_
  rintro z w8 ⟨v8, r8, rfl, hev8, hrd8, hb8⟩
  rw [KK.out] at hev8 hrd8
  obtain ⟨hr8, _⟩ := hev8.nil rfl
  subst hr8
  have C8 := Lib.hid (C7.out.trans (hb8.mono C7.out.size))
  have K8 := Lib.hid (K7.out.trans (hb8.mono K7.out.size))
  obtain ⟨A8, c8, hv8, _, S2, hS2, hx2⟩ := RdT.form hrd8
  subst hv8
  have X2 := Lib.hid hx2
  have Q2 := Lib.hid hS2
  obtain ⟨_, _, hv6b, _, S1, hS1, hx1⟩ := RdT.form (HT6.out _ K8.out)
  obtain ⟨rfl, rfl⟩ : A6 = _ ∧ c6 = _ := by injection hv6b with q1 q2 q3; exact ⟨q1, q3⟩
  have X1 := Lib.hid hx1
  have Q1 := Lib.hid hS1
  clear hev8 hrd8 hb8 hx2 hS2 hx1 hS1 hv6b
  generalize hK : keepL many l = K at *
  clear hK
  have hyi : ¬ (K.length : Int) > ((keepL (many + 1) l).length : Int) := by omega
  have hkk : ((K.length : Int) != (K.length : Int)) = false := by simp
  have hyd : decide ((keepL (many + 1) l).length < K.length) = false := decide_eq_false (by omega)
  go_wp2_with fail
  refine (TCheck_any a _ K HKB.out hkl6 w8 (HT6.out _ K8.out) ((H.out.below (HBW.out _ C8.out)).someS _ (by decide))).mono ?_
  rintro z w9 ⟨r9, rfl, hev9, hb9⟩
  obtain ⟨hr9, _⟩ := hev9.nil (by rw [KF.out])
  subst hr9
  have L9 := Lib.hid hb9
  clear hev9 hb9
  go_wp2
  clear hyi hyd hkly
  go_loopg [17, 18] K.length (fun gh vi vs wr => ∃ (k : Nat) (q : Value), vi = .int .i64 k ∧ vs = q ∧ k ≤ K.length ∧ gh = K.length - k ∧ Below w8.heap.size w8 wr)
  case atStart => exact ⟨0, _, rfl, rfl, Nat.zero_le _, rfl, L9.out⟩
  case round =>
    obtain ⟨k, q, rfl, rfl, hk, hgm, hB⟩ := hrel
    by_cases hkl : k < K.length
    · obtain ⟨g, o, rfl, hg, hcell⟩ := X1.out (by omega)
      obtain ⟨c0, c1, c2, c3, c4⟩ := hcell k hkl
      obtain ⟨g2, o2, rfl, hg2, hcell2⟩ := X2.out (by omega)
      obtain ⟨e0, e1, e2, e3, e4⟩ := hcell2 k hkl
      have b1 : (0 : Int) ≤ (k : Int) := by omega
      have b2 : (k : Int) < (K.length : Int) := by omega
      have HSK := Lib.hid (((Q1.out k hkl).keep hB (Nat.le_refl _)).more hB.size)
      have HSK2 := Lib.hid (((Q2.out k hkl).keep hB (Nat.le_refl _)).more hB.size)
      have HBk := Lib.hid (HKB.out K[k] (List.getElem_mem hkl))
      obtain ⟨SA, sc, hSA⟩ := HSK.out.slice
      obtain ⟨SA2, sc2, hSA2⟩ := HSK2.out.slice
      rw [hSA] at c4 HSK
      rw [hSA2] at e4 HSK2
      have D0 := Lib.hid ((hB.cell (p := ⟨g, o + k * 5, none⟩) hg).trans c0)
      have E0 := Lib.hid ((hB.cell (p := ⟨g2, o2 + k * 5, none⟩) hg2).trans e0)
      have D1 := Lib.hid ((hB.cell (p := ⟨g, o + k * 5 + 1, none⟩) hg).trans c1)
      have E1 := Lib.hid ((hB.cell (p := ⟨g2, o2 + k * 5 + 1, none⟩) hg2).trans e1)
      have D2 := Lib.hid ((hB.cell (p := ⟨g, o + k * 5 + 2, none⟩) hg).trans c2)
      have E2 := Lib.hid ((hB.cell (p := ⟨g2, o2 + k * 5 + 2, none⟩) hg2).trans e2)
      have D3 := Lib.hid ((hB.cell (p := ⟨g, o + k * 5 + 3, none⟩) hg).trans c3)
      have E3 := Lib.hid ((hB.cell (p := ⟨g2, o2 + k * 5 + 3, none⟩) hg2).trans e3)
      have D4 := Lib.hid ((hB.cell (p := ⟨g, o + k * 5 + 4, none⟩) hg).trans c4)
      have E4 := Lib.hid ((hB.cell (p := ⟨g2, o2 + k * 5 + 4, none⟩) hg2).trans e4)
      have hgr : g < wr.heap.size := Nat.lt_of_lt_of_le hg hB.size
      have hgr2 : g2 < wr.heap.size := Nat.lt_of_lt_of_le hg2 hB.size
      have HB := Lib.hid hB
      have hdd : (K[k].day != K[k].day) = false := by simp
      clear hcell hcell2 c0 c1 c2 c3 c4 e0 e1 e2 e3 e4 hSA hSA2 hB
      generalize hek : K[k] = ek at *
      go_wp2
      have hS0 : Below wr.heap.size wr wr.drew := (Below.refl _ _).drew
      refine region_S (fun w' => Below wr.heap.size wr w') 11 (by kernel_rfl) (by kernel_rfl) ?_
      refine take_S 0 rfl (by kernel_rfl) (by kernel_rfl) hS0 (fun w' hS => by have c1 := (hS.cell (p := ⟨g, o + k * 5 + 1, none⟩) hgr).trans D1.out; have c2 := (hS.cell (p := ⟨g, o + k * 5 + 2, none⟩) hgr).trans D2.out; have c3 := (hS.cell (p := ⟨g, o + k * 5 + 3, none⟩) hgr).trans D3.out; have c4 := (hS.cell (p := ⟨g, o + k * 5 + 4, none⟩) hgr).trans D4.out; have e1 := (hS.cell (p := ⟨g2, o2 + k * 5 + 1, none⟩) hgr2).trans E1.out; have e2 := (hS.cell (p := ⟨g2, o2 + k * 5 + 2, none⟩) hgr2).trans E2.out; have e3 := (hS.cell (p := ⟨g2, o2 + k * 5 + 3, none⟩) hgr2).trans E3.out; have e4 := (hS.cell (p := ⟨g2, o2 + k * 5 + 4, none⟩) hgr2).trans E4.out; go_simp; rfl) ?_
      refine take_S 1 rfl (by kernel_rfl) (by kernel_rfl) hS0 (fun w' hS => by have c1 := (hS.cell (p := ⟨g, o + k * 5 + 1, none⟩) hgr).trans D1.out; have c2 := (hS.cell (p := ⟨g, o + k * 5 + 2, none⟩) hgr).trans D2.out; have c3 := (hS.cell (p := ⟨g, o + k * 5 + 3, none⟩) hgr).trans D3.out; have c4 := (hS.cell (p := ⟨g, o + k * 5 + 4, none⟩) hgr).trans D4.out; have e1 := (hS.cell (p := ⟨g2, o2 + k * 5 + 1, none⟩) hgr2).trans E1.out; have e2 := (hS.cell (p := ⟨g2, o2 + k * 5 + 2, none⟩) hgr2).trans E2.out; have e3 := (hS.cell (p := ⟨g2, o2 + k * 5 + 3, none⟩) hgr2).trans E3.out; have e4 := (hS.cell (p := ⟨g2, o2 + k * 5 + 4, none⟩) hgr2).trans E4.out; go_simp; rfl) ?_
      refine take_S 2 rfl (by kernel_rfl) (by kernel_rfl) hS0 (fun w' hS => by have c1 := (hS.cell (p := ⟨g, o + k * 5 + 1, none⟩) hgr).trans D1.out; have c2 := (hS.cell (p := ⟨g, o + k * 5 + 2, none⟩) hgr).trans D2.out; have c3 := (hS.cell (p := ⟨g, o + k * 5 + 3, none⟩) hgr).trans D3.out; have c4 := (hS.cell (p := ⟨g, o + k * 5 + 4, none⟩) hgr).trans D4.out; have e1 := (hS.cell (p := ⟨g2, o2 + k * 5 + 1, none⟩) hgr2).trans E1.out; have e2 := (hS.cell (p := ⟨g2, o2 + k * 5 + 2, none⟩) hgr2).trans E2.out; have e3 := (hS.cell (p := ⟨g2, o2 + k * 5 + 3, none⟩) hgr2).trans E3.out; have e4 := (hS.cell (p := ⟨g2, o2 + k * 5 + 4, none⟩) hgr2).trans E4.out; go_simp; rfl) ?_
      refine take_S 3 rfl (by kernel_rfl) (by kernel_rfl) hS0 (fun w' hS => by have c1 := (hS.cell (p := ⟨g, o + k * 5 + 1, none⟩) hgr).trans D1.out; have c2 := (hS.cell (p := ⟨g, o + k * 5 + 2, none⟩) hgr).trans D2.out; have c3 := (hS.cell (p := ⟨g, o + k * 5 + 3, none⟩) hgr).trans D3.out; have c4 := (hS.cell (p := ⟨g, o + k * 5 + 4, none⟩) hgr).trans D4.out; have e1 := (hS.cell (p := ⟨g2, o2 + k * 5 + 1, none⟩) hgr2).trans E1.out; have e2 := (hS.cell (p := ⟨g2, o2 + k * 5 + 2, none⟩) hgr2).trans E2.out; have e3 := (hS.cell (p := ⟨g2, o2 + k * 5 + 3, none⟩) hgr2).trans E3.out; have e4 := (hS.cell (p := ⟨g2, o2 + k * 5 + 4, none⟩) hgr2).trans E4.out; go_simp; rfl) ?_
      refine take_S 4 rfl (by kernel_rfl) (by kernel_rfl) hS0 (fun w' hS => by have c1 := (hS.cell (p := ⟨g, o + k * 5 + 1, none⟩) hgr).trans D1.out; have c2 := (hS.cell (p := ⟨g, o + k * 5 + 2, none⟩) hgr).trans D2.out; have c3 := (hS.cell (p := ⟨g, o + k * 5 + 3, none⟩) hgr).trans D3.out; have c4 := (hS.cell (p := ⟨g, o + k * 5 + 4, none⟩) hgr).trans D4.out; have e1 := (hS.cell (p := ⟨g2, o2 + k * 5 + 1, none⟩) hgr2).trans E1.out; have e2 := (hS.cell (p := ⟨g2, o2 + k * 5 + 2, none⟩) hgr2).trans E2.out; have e3 := (hS.cell (p := ⟨g2, o2 + k * 5 + 3, none⟩) hgr2).trans E3.out; have e4 := (hS.cell (p := ⟨g2, o2 + k * 5 + 4, none⟩) hgr2).trans E4.out; go_simp; rfl) ?_
      refine take_S 5 rfl (by kernel_rfl) (by kernel_rfl) hS0 (fun w' hS => by have c1 := (hS.cell (p := ⟨g, o + k * 5 + 1, none⟩) hgr).trans D1.out; have c2 := (hS.cell (p := ⟨g, o + k * 5 + 2, none⟩) hgr).trans D2.out; have c3 := (hS.cell (p := ⟨g, o + k * 5 + 3, none⟩) hgr).trans D3.out; have c4 := (hS.cell (p := ⟨g, o + k * 5 + 4, none⟩) hgr).trans D4.out; have e1 := (hS.cell (p := ⟨g2, o2 + k * 5 + 1, none⟩) hgr2).trans E1.out; have e2 := (hS.cell (p := ⟨g2, o2 + k * 5 + 2, none⟩) hgr2).trans E2.out; have e3 := (hS.cell (p := ⟨g2, o2 + k * 5 + 3, none⟩) hgr2).trans E3.out; have e4 := (hS.cell (p := ⟨g2, o2 + k * 5 + 4, none⟩) hgr2).trans E4.out; go_simp; rfl) ?_
      refine take_S 6 rfl (by kernel_rfl) (by kernel_rfl) hS0 (fun w' hS => by have c1 := (hS.cell (p := ⟨g, o + k * 5 + 1, none⟩) hgr).trans D1.out; have c2 := (hS.cell (p := ⟨g, o + k * 5 + 2, none⟩) hgr).trans D2.out; have c3 := (hS.cell (p := ⟨g, o + k * 5 + 3, none⟩) hgr).trans D3.out; have c4 := (hS.cell (p := ⟨g, o + k * 5 + 4, none⟩) hgr).trans D4.out; have e1 := (hS.cell (p := ⟨g2, o2 + k * 5 + 1, none⟩) hgr2).trans E1.out; have e2 := (hS.cell (p := ⟨g2, o2 + k * 5 + 2, none⟩) hgr2).trans E2.out; have e3 := (hS.cell (p := ⟨g2, o2 + k * 5 + 3, none⟩) hgr2).trans E3.out; have e4 := (hS.cell (p := ⟨g2, o2 + k * 5 + 4, none⟩) hgr2).trans E4.out; go_simp; rfl) ?_
      refine take_S 7 rfl (by kernel_rfl) (by kernel_rfl) hS0 (fun w' hS => by have c1 := (hS.cell (p := ⟨g, o + k * 5 + 1, none⟩) hgr).trans D1.out; have c2 := (hS.cell (p := ⟨g, o + k * 5 + 2, none⟩) hgr).trans D2.out; have c3 := (hS.cell (p := ⟨g, o + k * 5 + 3, none⟩) hgr).trans D3.out; have c4 := (hS.cell (p := ⟨g, o + k * 5 + 4, none⟩) hgr).trans D4.out; have e1 := (hS.cell (p := ⟨g2, o2 + k * 5 + 1, none⟩) hgr2).trans E1.out; have e2 := (hS.cell (p := ⟨g2, o2 + k * 5 + 2, none⟩) hgr2).trans E2.out; have e3 := (hS.cell (p := ⟨g2, o2 + k * 5 + 3, none⟩) hgr2).trans E3.out; have e4 := (hS.cell (p := ⟨g2, o2 + k * 5 + 4, none⟩) hgr2).trans E4.out; go_simp; rfl) ?_
      refine take_S 8 rfl (by kernel_rfl) (by kernel_rfl) hS0 (fun w' hS => by have c1 := (hS.cell (p := ⟨g, o + k * 5 + 1, none⟩) hgr).trans D1.out; have c2 := (hS.cell (p := ⟨g, o + k * 5 + 2, none⟩) hgr).trans D2.out; have c3 := (hS.cell (p := ⟨g, o + k * 5 + 3, none⟩) hgr).trans D3.out; have c4 := (hS.cell (p := ⟨g, o + k * 5 + 4, none⟩) hgr).trans D4.out; have e1 := (hS.cell (p := ⟨g2, o2 + k * 5 + 1, none⟩) hgr2).trans E1.out; have e2 := (hS.cell (p := ⟨g2, o2 + k * 5 + 2, none⟩) hgr2).trans E2.out; have e3 := (hS.cell (p := ⟨g2, o2 + k * 5 + 3, none⟩) hgr2).trans E3.out; have e4 := (hS.cell (p := ⟨g2, o2 + k * 5 + 4, none⟩) hgr2).trans E4.out; go_simp; rfl) ?_
      refine take_S 9 rfl (by kernel_rfl) (by kernel_rfl) hS0 (fun w' hS => by have c1 := (hS.cell (p := ⟨g, o + k * 5 + 1, none⟩) hgr).trans D1.out; have c2 := (hS.cell (p := ⟨g, o + k * 5 + 2, none⟩) hgr).trans D2.out; have c3 := (hS.cell (p := ⟨g, o + k * 5 + 3, none⟩) hgr).trans D3.out; have c4 := (hS.cell (p := ⟨g, o + k * 5 + 4, none⟩) hgr).trans D4.out; have e1 := (hS.cell (p := ⟨g2, o2 + k * 5 + 1, none⟩) hgr2).trans E1.out; have e2 := (hS.cell (p := ⟨g2, o2 + k * 5 + 2, none⟩) hgr2).trans E2.out; have e3 := (hS.cell (p := ⟨g2, o2 + k * 5 + 3, none⟩) hgr2).trans E3.out; have e4 := (hS.cell (p := ⟨g2, o2 + k * 5 + 4, none⟩) hgr2).trans E4.out; go_simp; rfl) ?_
      refine carry_S 10 rfl (by kernel_rfl) (by decide) (by kernel_rfl) (fun Kc hKc => ?_)
      go_simp
      refine (SameRecipe_same (rcpAgg ek.r (.slice SA ek.r.ids.length sc)) (rcpAgg ek.r (.slice SA2 ek.r.ids.length sc2)) ek.r HBk.out.c wr.drew ⟨_, rfl, (HSK.out.keep hS0 (Nat.le_refl _)).more hS0.size⟩ ⟨_, rfl, (HSK2.out.keep hS0 (Nat.le_refl _)).more hS0.size⟩).mono ?_
      rintro e w4 ⟨rfl, hb4⟩
      have hS4 : Below wr.heap.size wr w4 := hS0.trans (hb4.mono hS0.size)
      refine hKc _ _ hS4 (forced_S (by kernel_rfl) ?_)
      clear hKc hb4
      try simp only [Act.put, List.getElem_toArray, List.getElem_cons_succ, List.getElem_cons_zero, List.setIfInBounds_toArray, List.set_cons_zero, List.set_cons_succ]
      simp only [List.drop_succ_cons, List.drop_zero]
      have HB4 := Lib.hid (HB.out.trans (hS4.mono HB.out.size))
      have x0 := (hS4.cell (p := ⟨g, o + k * 5, none⟩) hgr).trans D0.out
      have x1 := (hS4.cell (p := ⟨g2, o2 + k * 5, none⟩) hgr2).trans E0.out
      go_wp2
      go_quiet (fail)
      go_wp2
      go_roundg (K.length - (k + 1))
      case measure => omega
      case rel => exact ⟨k + 1, _, by go_num, rfl, hkl, rfl, below_drewN HB4.out _⟩
    · obtain rfl : k = K.length := by omega
      obtain ⟨wq, hwq⟩ : ∃ x, x = wr := ⟨_, rfl⟩
      subst hwq
      have L10 := Lib.hid hB
      have C10 := Lib.hid (C8.out.trans (hB.mono C8.out.size))
      have K10 := Lib.hid (K8.out.trans (hB.mono K8.out.size))
      clear hB X1 X2 Q1 Q2
      go_wp2_with fail
      refine (TNames_any _ K HKB.out hkl6 wq (HT6.out _ K10.out)).mono ?_
      rintro z w11 ⟨v11, rfl, hrd11, hb11⟩
      have HN11 := Lib.hid hrd11
      have C11 := Lib.hid (C10.out.trans (hb11.mono C10.out.size))
      have K11 := Lib.hid (K10.out.trans (hb11.mono K10.out.size))
      clear hrd11 hb11
      go_wp2_with fail
      refine (TNames_any _ l HRB.out hl6 w11 (HW.out _ C11.out)).mono ?_
      rintro z w12 ⟨v12, rfl, hrd12, hb12⟩
      have HN12 := Lib.hid hrd12
      have HM12 := Lib.hid ((HN11.out.below hb12).more hb12.size)
      have C12 := Lib.hid (C11.out.trans (hb12.mono C11.out.size))
      have K12 := Lib.hid (K11.out.trans (hb12.mono K11.out.size))
      clear hrd12 hb12 HN11
      rw [KN.out] at HM12
      have hnl := namesL_len l
      have hnl2 : (namesL l).length ≤ 2 ^ 62 := by omega
      go_wp2_with fail
      refine (SameTexts_any _ _ (namesL l) (namesL l) w12.heap.size w12 HM12.out HN12.out hnl2 hnl2).mono ?_
      rintro z w13 ⟨rfl, q13, hw13⟩
      have C13 := Lib.hid (hw13 ▸ below_drewN C12.out q13)
      have K13 := Lib.hid (hw13 ▸ below_drewN K12.out q13)
      have hdn : decide (namesL l = namesL l) = true := by simp
      rw [hdn]
      clear hw13 hdn HM12 HN12 hnl hnl2
      go_wp2
      go_loopg [19, 20] l.length (fun gh vf vi wr => ∃ (k : Nat) (f : Int), vi = .int .i64 k ∧ vf = .int .i64 f ∧ k ≤ l.length ∧ gh = l.length - k ∧ Hid (FoundAt (nameE t.data.toList) l k f) ∧ wr = w13)
      case atStart => exact ⟨0, -1, rfl, rfl, Nat.zero_le _, rfl, Lib.hid (.inl ⟨rfl, rfl⟩), rfl⟩
      case round =>
        obtain ⟨k, f, rfl, rfl, hk, hgm, hFA, rfl⟩ := hrel
        by_cases hkl : k < l.length
        · obtain ⟨g, o, rfl, hg, hcell⟩ := HXL.out (by omega)
          have d1 := ((HBW.out _ C13.out).cell (p := ⟨g, o + k * 5 + 1, none⟩) hg).trans (hcell k hkl).2.1
          have b1 : (0 : Int) ≤ (k : Int) := by omega
          have b2 : (k : Int) < (l.length : Int) := by omega
          have hbt : bs t.data.toList = t := by apply ba_ext; rw [bs_toList]
          have hcmp : ((bs l[k].r.name).toList == t.toList) = decide (l[k].r.name = t.data.toList) := by rw [← bs_beq, hbt]
          clear hcell
          by_cases he : l[k].r.name = t.data.toList
          · have hei : ((bs l[k].r.name).toList == t.toList) = true := by rw [hcmp]; exact decide_eq_true he
            have HFA' : Hid (FoundAt (nameE t.data.toList) l (k + 1) (k : Int)) := Lib.hid (FoundAt.hit (f := f) hkl (by unfold nameE; simp [he]))
            clear hcmp he hbt hFA
            go_wp2
            go_roundg (l.length - (k + 1))
            case measure => omega
            case rel => exact ⟨k + 1, k, by go_num, rfl, hkl, rfl, HFA', rfl⟩
          · have hei : ((bs l[k].r.name).toList == t.toList) = false := by rw [hcmp]; exact decide_eq_false he
            have HFA' : Hid (FoundAt (nameE t.data.toList) l (k + 1) f) := Lib.hid (hFA.out.miss hkl (by unfold nameE; simp [he]))
            clear hcmp he hbt hFA
            go_wp2
            go_roundg (l.length - (k + 1))
            case measure => omega
            case rel => exact ⟨k + 1, f, by go_num, rfl, hkl, rfl, HFA', rfl⟩
        · obtain rfl : k = l.length := by omega
          have hfa := hFA.out
          clear hFA hk
          unfold FoundAt at hfa
          rw [List.take_length] at hfa
          rcases hfa with ⟨rfl, _⟩ | ⟨j, hj, rfl, hn⟩
          · go_wp2
            go_ret
            exact ⟨rfl, HBW.out _ C13.out⟩
          · have HN := Lib.hid hn
            obtain ⟨g, o, rfl, hg, hcell⟩ := HXL.out (by omega)
            obtain ⟨c0, c1, c2, c3, c4⟩ := hcell j hj
            have hgd := ((HBW.out _ C13.out).cell (p := ⟨g, o + j * 5, none⟩) hg).trans c0
            have b1 : (0 : Int) ≤ (j : Int) := by omega
            have b2 : (j : Int) < (l.length : Int) := by omega
            have b3 : ¬ (j : Int) < 0 := by omega
            have HSJ := Lib.hid (HSL.out j hj)
            have HBJ := Lib.hid (HRB.out l[j] (List.getElem_mem hj))
            obtain ⟨SA, sc, hSA⟩ := HSJ.out.slice
            rw [hSA] at c4 HSJ
            have c1h := Lib.hid c1
            have c2h := Lib.hid c2
            have c3h := Lib.hid c3
            have c4h := Lib.hid c4
            clear hcell hn hSA c0 c1 c2 c3 c4
            have HJ := Lib.hid (fun (h : l[j].day ≤ day) => lastP_day HN.out h)
            have HJK := Lib.hid (fun (h : l[j].day ≤ day) => lastP_day (l := K) ((KL.out _).trans HN.out) h)
            generalize hej : l[j] = ej at *
            by_cases hd : day < ej.day
            · go_wp2
              go_ret
              exact ⟨rfl, HBW.out _ C13.out⟩
            · have hAR : atRes l t.data.toList day = ((0, -1), ej.r) := by rw [at_end (by rw [HF.out]), HJ.out (by omega)]; rfl
              have hARK : atRes K t.data.toList day = ((0, -1), ej.r) := by rw [at_end (by rw [KF.out]), HJK.out (by omega)]; rfl
              have RA := Lib.hid hAR
              have RK := Lib.hid hARK
              clear hAR hARK HJ HJK
              go_wp2_with fail
              refine (TAt_any a _ l t day HRB.out hl6 wr (HW.out _ C13.out) ((H.out.below (HBW.out _ C13.out)).someS _ (by decide))).mono ?_
              rintro z w14 ⟨v14, r14, rfl, hev14, hrv14, hb14⟩
              rw [RA.out] at hev14 hrv14
              obtain ⟨hr14, _⟩ := hev14.nil rfl
              subst hr14
              obtain ⟨s14, rfl, hi14⟩ := hrv14
              obtain ⟨A14, c14, hs14⟩ := hi14.slice
              subst hs14
              have ha14 : Below w14.heap.size w14 (w14.alloc (.cells #[VT ej.r.name, .int .i64 ej.r.len, .int .u32 (ej.r.print : Int), .slice A14 ej.r.ids.length c14] 36)) := (Below.refl _ _).alloc (Nat.le_refl _) _
              have hbb14 := hb14.trans (ha14.mono hb14.size)
              have C14 := Lib.hid (C13.out.trans (hbb14.mono C13.out.size))
              have HQ14 := Lib.hid ((hi14.keep ha14 (Nat.le_refl _)).more ha14.size)
              have XB14 := Lib.hid (Box4.mk' w14 (VT ej.r.name) (.int .i64 ej.r.len) (.int .u32 (ej.r.print : Int)) (.slice A14 ej.r.ids.length c14) 36)
              have K14 := Lib.hid (K13.out.trans (hbb14.mono K13.out.size))
              clear hev14 hi14 hb14 ha14 hbb14
              go_wp2_with fail
              generalize hw14 : w14.alloc (.cells #[VT ej.r.name, .int .i64 ej.r.len, .int .u32 (ej.r.print : Int), .slice A14 ej.r.ids.length c14] 36) = u14 at *
              clear hw14
              generalize w14.heap.size = x14 at *
              go_wp2_with fail
              refine (TAt_any a _ K t day HKB.out hkl6 u14 (HT6.out _ K14.out) ((H.out.below (HBW.out _ C14.out)).someS _ (by decide))).mono ?_
              rintro z w15 ⟨v15, r15, rfl, hev15, hrv15, hb15⟩
              rw [RK.out] at hev15 hrv15
              obtain ⟨hr15, _⟩ := hev15.nil rfl
              subst hr15
              obtain ⟨s15, rfl, hi15⟩ := hrv15
              obtain ⟨A15, c15, hs15⟩ := hi15.slice
              subst hs15
              have ha15 : Below w15.heap.size w15 (w15.alloc (.cells #[VT ej.r.name, .int .i64 ej.r.len, .int .u32 (ej.r.print : Int), .slice A15 ej.r.ids.length c15] 36)) := (Below.refl _ _).alloc (Nat.le_refl _) _
              have hbb15 := hb15.trans (ha15.mono hb15.size)
              have C15 := Lib.hid (C14.out.trans (hbb15.mono C14.out.size))
              have HQ15 := Lib.hid ((hi15.keep ha15 (Nat.le_refl _)).more ha15.size)
              have XB15 := Lib.hid (Box4.mk' w15 (VT ej.r.name) (.int .i64 ej.r.len) (.int .u32 (ej.r.print : Int)) (.slice A15 ej.r.ids.length c15) 36)
              have HQ14b := Lib.hid ((HQ14.out.keep hbb15 (Nat.le_refl _)).more hbb15.size)
              have XB14b := Lib.hid (XB14.out.below hbb15 XB14.out.lt)
              clear HQ14 XB14
              have HQ14 := HQ14b
              have XB14 := XB14b
              clear HQ14b XB14b
              clear hev15 hi15 hb15 ha15 hbb15
              go_wp2_with fail
              generalize hw15 : w15.alloc (.cells #[VT ej.r.name, .int .i64 ej.r.len, .int .u32 (ej.r.print : Int), .slice A15 ej.r.ids.length c15] 36) = u15 at *
              clear hw15
              generalize w15.heap.size = x15 at *
              go_wp2
              have L1 := Lib.hid (((HBW.out _ C15.out).cell (p := ⟨g, o + j * 5 + 1, none⟩) hg).trans c1h.out)
              have L2 := Lib.hid (((HBW.out _ C15.out).cell (p := ⟨g, o + j * 5 + 2, none⟩) hg).trans c2h.out)
              have L3 := Lib.hid (((HBW.out _ C15.out).cell (p := ⟨g, o + j * 5 + 3, none⟩) hg).trans c3h.out)
              have L4 := Lib.hid (((HBW.out _ C15.out).cell (p := ⟨g, o + j * 5 + 4, none⟩) hg).trans c4h.out)
              have hgw : g < u15.heap.size := Nat.lt_of_lt_of_le hg (HBW.out _ C15.out).size
              have HSW := Lib.hid ((HSJ.out.keep (HBW.out _ C15.out) (Nat.le_refl _)).more (HBW.out _ C15.out).size)
              have hS0 : Below u15.heap.size u15 u15.drew := (Below.refl _ _).drew
              refine region_S (fun w' => Below u15.heap.size u15 w') 7 (by kernel_rfl) (by kernel_rfl) ?_
              refine take_S 0 rfl (by kernel_rfl) (by kernel_rfl) hS0 (fun w' hS => by have d1 := (hS.cell (p := ⟨g, o + j * 5 + 1, none⟩) hgw).trans L1.out; have d2 := (hS.cell (p := ⟨g, o + j * 5 + 2, none⟩) hgw).trans L2.out; have d3 := (hS.cell (p := ⟨g, o + j * 5 + 3, none⟩) hgw).trans L3.out; have d4 := (hS.cell (p := ⟨g, o + j * 5 + 4, none⟩) hgw).trans L4.out; obtain ⟨y0, y1, y2, y3, _⟩ := XB14.out.below hS XB14.out.lt; go_simp; rfl) ?_
              refine take_S 1 rfl (by kernel_rfl) (by kernel_rfl) hS0 (fun w' hS => by have d1 := (hS.cell (p := ⟨g, o + j * 5 + 1, none⟩) hgw).trans L1.out; have d2 := (hS.cell (p := ⟨g, o + j * 5 + 2, none⟩) hgw).trans L2.out; have d3 := (hS.cell (p := ⟨g, o + j * 5 + 3, none⟩) hgw).trans L3.out; have d4 := (hS.cell (p := ⟨g, o + j * 5 + 4, none⟩) hgw).trans L4.out; obtain ⟨y0, y1, y2, y3, _⟩ := XB14.out.below hS XB14.out.lt; go_simp; rfl) ?_
              refine take_S 2 rfl (by kernel_rfl) (by kernel_rfl) hS0 (fun w' hS => by have d1 := (hS.cell (p := ⟨g, o + j * 5 + 1, none⟩) hgw).trans L1.out; have d2 := (hS.cell (p := ⟨g, o + j * 5 + 2, none⟩) hgw).trans L2.out; have d3 := (hS.cell (p := ⟨g, o + j * 5 + 3, none⟩) hgw).trans L3.out; have d4 := (hS.cell (p := ⟨g, o + j * 5 + 4, none⟩) hgw).trans L4.out; obtain ⟨y0, y1, y2, y3, _⟩ := XB14.out.below hS XB14.out.lt; go_simp; rfl) ?_
              refine take_S 3 rfl (by kernel_rfl) (by kernel_rfl) hS0 (fun w' hS => by have d1 := (hS.cell (p := ⟨g, o + j * 5 + 1, none⟩) hgw).trans L1.out; have d2 := (hS.cell (p := ⟨g, o + j * 5 + 2, none⟩) hgw).trans L2.out; have d3 := (hS.cell (p := ⟨g, o + j * 5 + 3, none⟩) hgw).trans L3.out; have d4 := (hS.cell (p := ⟨g, o + j * 5 + 4, none⟩) hgw).trans L4.out; obtain ⟨y0, y1, y2, y3, _⟩ := XB14.out.below hS XB14.out.lt; go_simp; rfl) ?_
              refine take_S 4 rfl (by kernel_rfl) (by kernel_rfl) hS0 (fun w' hS => by have d1 := (hS.cell (p := ⟨g, o + j * 5 + 1, none⟩) hgw).trans L1.out; have d2 := (hS.cell (p := ⟨g, o + j * 5 + 2, none⟩) hgw).trans L2.out; have d3 := (hS.cell (p := ⟨g, o + j * 5 + 3, none⟩) hgw).trans L3.out; have d4 := (hS.cell (p := ⟨g, o + j * 5 + 4, none⟩) hgw).trans L4.out; obtain ⟨y0, y1, y2, y3, _⟩ := XB14.out.below hS XB14.out.lt; go_simp; rfl) ?_
              refine take_S 5 rfl (by kernel_rfl) (by kernel_rfl) hS0 (fun w' hS => by have d1 := (hS.cell (p := ⟨g, o + j * 5 + 1, none⟩) hgw).trans L1.out; have d2 := (hS.cell (p := ⟨g, o + j * 5 + 2, none⟩) hgw).trans L2.out; have d3 := (hS.cell (p := ⟨g, o + j * 5 + 3, none⟩) hgw).trans L3.out; have d4 := (hS.cell (p := ⟨g, o + j * 5 + 4, none⟩) hgw).trans L4.out; obtain ⟨y0, y1, y2, y3, _⟩ := XB14.out.below hS XB14.out.lt; go_simp; rfl) ?_
              refine carry_S 6 rfl (by kernel_rfl) (by decide) (by kernel_rfl) (fun Kc hKc => ?_)
              go_simp
              refine (SameRecipe_same (rcpAgg ej.r (.slice A14 ej.r.ids.length c14)) (rcpAgg ej.r (.slice SA ej.r.ids.length sc)) ej.r HBJ.out.c u15.drew ⟨_, rfl, (HQ14.out.keep hS0 (Nat.le_refl _)).more hS0.size⟩ ⟨_, rfl, (HSW.out.keep hS0 (Nat.le_refl _)).more hS0.size⟩).mono ?_
              rintro e w16 ⟨rfl, hb16⟩
              have hS16 : Below u15.heap.size u15 w16 := hS0.trans (hb16.mono hS0.size)
              refine hKc _ _ hS16 (forced_S (by kernel_rfl) ?_)
              clear hKc hb16 hS0
              try simp only [Act.put, List.getElem_toArray, List.getElem_cons_succ, List.getElem_cons_zero, List.setIfInBounds_toArray, List.set_cons_zero, List.set_cons_succ]
              simp only [List.drop_succ_cons, List.drop_zero]
              have C16 := Lib.hid (C15.out.trans (hS16.mono C15.out.size))
              have HQX16 := Lib.hid hS16
              clear L1 L2 L3 L4 hgw HSW hS16
              have HQ15b := Lib.hid ((HQ15.out.keep HQX16.out (Nat.le_refl _)).more HQX16.out.size)
              have XB15b := Lib.hid (XB15.out.below HQX16.out XB15.out.lt)
              clear HQ15 XB15
              have HQ15 := HQ15b
              have XB15 := XB15b
              clear HQ15b XB15b
              go_wp2
              have L1 := Lib.hid (((HBW.out _ C16.out).cell (p := ⟨g, o + j * 5 + 1, none⟩) hg).trans c1h.out)
              have L2 := Lib.hid (((HBW.out _ C16.out).cell (p := ⟨g, o + j * 5 + 2, none⟩) hg).trans c2h.out)
              have L3 := Lib.hid (((HBW.out _ C16.out).cell (p := ⟨g, o + j * 5 + 3, none⟩) hg).trans c3h.out)
              have L4 := Lib.hid (((HBW.out _ C16.out).cell (p := ⟨g, o + j * 5 + 4, none⟩) hg).trans c4h.out)
              have hgw : g < w16.heap.size := Nat.lt_of_lt_of_le hg (HBW.out _ C16.out).size
              have HSW := Lib.hid ((HSJ.out.keep (HBW.out _ C16.out) (Nat.le_refl _)).more (HBW.out _ C16.out).size)
              have hS0 : Below w16.heap.size w16 w16.drew := (Below.refl _ _).drew
              refine region_S (fun w' => Below w16.heap.size w16 w') 7 (by kernel_rfl) (by kernel_rfl) ?_
              refine take_S 0 rfl (by kernel_rfl) (by kernel_rfl) hS0 (fun w' hS => by have d1 := (hS.cell (p := ⟨g, o + j * 5 + 1, none⟩) hgw).trans L1.out; have d2 := (hS.cell (p := ⟨g, o + j * 5 + 2, none⟩) hgw).trans L2.out; have d3 := (hS.cell (p := ⟨g, o + j * 5 + 3, none⟩) hgw).trans L3.out; have d4 := (hS.cell (p := ⟨g, o + j * 5 + 4, none⟩) hgw).trans L4.out; obtain ⟨y0, y1, y2, y3, _⟩ := XB15.out.below hS XB15.out.lt; go_simp; rfl) ?_
              refine take_S 1 rfl (by kernel_rfl) (by kernel_rfl) hS0 (fun w' hS => by have d1 := (hS.cell (p := ⟨g, o + j * 5 + 1, none⟩) hgw).trans L1.out; have d2 := (hS.cell (p := ⟨g, o + j * 5 + 2, none⟩) hgw).trans L2.out; have d3 := (hS.cell (p := ⟨g, o + j * 5 + 3, none⟩) hgw).trans L3.out; have d4 := (hS.cell (p := ⟨g, o + j * 5 + 4, none⟩) hgw).trans L4.out; obtain ⟨y0, y1, y2, y3, _⟩ := XB15.out.below hS XB15.out.lt; go_simp; rfl) ?_
              refine take_S 2 rfl (by kernel_rfl) (by kernel_rfl) hS0 (fun w' hS => by have d1 := (hS.cell (p := ⟨g, o + j * 5 + 1, none⟩) hgw).trans L1.out; have d2 := (hS.cell (p := ⟨g, o + j * 5 + 2, none⟩) hgw).trans L2.out; have d3 := (hS.cell (p := ⟨g, o + j * 5 + 3, none⟩) hgw).trans L3.out; have d4 := (hS.cell (p := ⟨g, o + j * 5 + 4, none⟩) hgw).trans L4.out; obtain ⟨y0, y1, y2, y3, _⟩ := XB15.out.below hS XB15.out.lt; go_simp; rfl) ?_
              refine take_S 3 rfl (by kernel_rfl) (by kernel_rfl) hS0 (fun w' hS => by have d1 := (hS.cell (p := ⟨g, o + j * 5 + 1, none⟩) hgw).trans L1.out; have d2 := (hS.cell (p := ⟨g, o + j * 5 + 2, none⟩) hgw).trans L2.out; have d3 := (hS.cell (p := ⟨g, o + j * 5 + 3, none⟩) hgw).trans L3.out; have d4 := (hS.cell (p := ⟨g, o + j * 5 + 4, none⟩) hgw).trans L4.out; obtain ⟨y0, y1, y2, y3, _⟩ := XB15.out.below hS XB15.out.lt; go_simp; rfl) ?_
              refine take_S 4 rfl (by kernel_rfl) (by kernel_rfl) hS0 (fun w' hS => by have d1 := (hS.cell (p := ⟨g, o + j * 5 + 1, none⟩) hgw).trans L1.out; have d2 := (hS.cell (p := ⟨g, o + j * 5 + 2, none⟩) hgw).trans L2.out; have d3 := (hS.cell (p := ⟨g, o + j * 5 + 3, none⟩) hgw).trans L3.out; have d4 := (hS.cell (p := ⟨g, o + j * 5 + 4, none⟩) hgw).trans L4.out; obtain ⟨y0, y1, y2, y3, _⟩ := XB15.out.below hS XB15.out.lt; go_simp; rfl) ?_
              refine take_S 5 rfl (by kernel_rfl) (by kernel_rfl) hS0 (fun w' hS => by have d1 := (hS.cell (p := ⟨g, o + j * 5 + 1, none⟩) hgw).trans L1.out; have d2 := (hS.cell (p := ⟨g, o + j * 5 + 2, none⟩) hgw).trans L2.out; have d3 := (hS.cell (p := ⟨g, o + j * 5 + 3, none⟩) hgw).trans L3.out; have d4 := (hS.cell (p := ⟨g, o + j * 5 + 4, none⟩) hgw).trans L4.out; obtain ⟨y0, y1, y2, y3, _⟩ := XB15.out.below hS XB15.out.lt; go_simp; rfl) ?_
              refine carry_S 6 rfl (by kernel_rfl) (by decide) (by kernel_rfl) (fun Kc hKc => ?_)
              go_simp
              refine (SameRecipe_same (rcpAgg ej.r (.slice A15 ej.r.ids.length c15)) (rcpAgg ej.r (.slice SA ej.r.ids.length sc)) ej.r HBJ.out.c w16.drew ⟨_, rfl, (HQ15.out.keep hS0 (Nat.le_refl _)).more hS0.size⟩ ⟨_, rfl, (HSW.out.keep hS0 (Nat.le_refl _)).more hS0.size⟩).mono ?_
              rintro e w17 ⟨rfl, hb17⟩
              have hS17 : Below w16.heap.size w16 w17 := hS0.trans (hb17.mono hS0.size)
              refine hKc _ _ hS17 (forced_S (by kernel_rfl) ?_)
              clear hKc hb17 hS0
              try simp only [Act.put, List.getElem_toArray, List.getElem_cons_succ, List.getElem_cons_zero, List.setIfInBounds_toArray, List.set_cons_zero, List.set_cons_succ]
              simp only [List.drop_succ_cons, List.drop_zero]
              have C17 := Lib.hid (C16.out.trans (hS17.mono C16.out.size))
              have HQX17 := Lib.hid hS17
              clear L1 L2 L3 L4 hgw HSW hS17
              go_wp2
              go_ret
              exact ⟨rfl, HBW.out _ C17.out⟩
theorem TrailKeeps_walk (a : Nat → Addr) (v : Value) (l : EntL) (t : ByteArray) (day many : Int) (hl : l.length ≤ maxLen) (ho : ∀ x ∈ l, EntO x) (hts : t.size ≤ maxLen) (w : World) (hv : RdT w w.heap.size v l) (h : Sents a w) :
    Calls Tryz.prog 3 #[v, .string t, .int .i64 day, .int .i64 many] w fun x w' => x = .returned (.bool true) ∧ Below w.heap.size w w' := by
  by_cases h1 : longT l = true
  · exact TrKp_a a v l t day many hl ho hts h1 w hv h
  · have h1' : longT l = false := by simpa using h1
    by_cases h3 : 30 < t.size
    · exact TrKp_b a v l t day many hl ho hts h1' h3 w hv h
    · by_cases h4 : many < 1
      · exact TrKp_c a v l t day many hl ho hts h1' h3 h4 w hv h
      · by_cases h5 : 100 < many
        · exact TrKp_d a v l t day many hl ho hts h1' h3 h4 h5 w hv h
        · by_cases hF : (trailFault l).1 = 0
          · exact TrKp_m a v l t day many hl ho hts h1' h3 h4 h5 (trailFault_two hF) w hv h
          · exact TrKp_e a v l t day many hl ho hts h1' h3 h4 h5 hF w hv h
end Go.Proofs.YtbokckjlgjnnjaaGreatDoor

/- Walk of the law RecipeBack. Condition: the sentinels and tables lie as the text lays them (RbW). -/
import Derived.Test.YtbokckjlgjnnjaaGreatDoorRcp2
namespace Go.Proofs.YtbokckjlgjnnjaaGreatDoor
open Go.RowKit Go.Lib

theorem RdI.setFar {w : World} {B g o n c gl : Nat} {L : IdL} (h : RdI w B (.slice (some ⟨g, o, none⟩) n c) L) (hne : g ≠ gl) (j : Nat) (x : Value) : RdI (w.setCell ⟨gl, j, none⟩ x) B (.slice (some ⟨g, o, none⟩) n c) L := by
  obtain ⟨A, c', hv, hl, hc, hx⟩ := h
  refine ⟨A, c', hv, hl, hc, fun h0 => ?_⟩
  obtain ⟨g', o', hA, hg, hcell⟩ := hx h0
  injection hv with e1 e2 e3
  rw [← e1] at hA
  injection hA with hA
  injection hA with e4 e5
  subst e4
  refine ⟨_, o', by rw [← e1, e5], hg, fun k u hu => ?_⟩
  rw [World.cell?_setCell_other _ _ _ _ (by intro e; injection e with e _; exact hne e.symm)]
  exact hcell k u hu
theorem idn_eqs {x y : Idn} (h : x = y) : ((x.1 : Int) == (y.1 : Int)) = true ∧ (x.2 == y.2) = true := by subst h; simp
theorem idn_ne {x y : Idn} (h : ¬ x = y) : ((x.1 : Int) == (y.1 : Int)) = false ∨ (((x.1 : Int) == (y.1 : Int)) = true ∧ (x.2 == y.2) = false) := by
  by_cases h1 : x.1 = y.1
  · refine .inr ⟨by simp [h1], ?_⟩
    rw [beq_eq_false_iff_ne]
    exact fun e => h (Prod.ext h1 e)
  · refine .inl ?_
    rw [beq_eq_false_iff_ne]; omega
/-- is the rep among the first k? -/
def thereB (L : IdL) (rep : Idn) (k : Nat) : Bool := L.isEmpty || (L.take k).any (fun x => decide (x = rep))
theorem there_next {L : IdL} {rep : Idn} {k : Nat} (hk : k < L.length) : thereB L rep (k + 1) = (thereB L rep k || decide (L[k] = rep)) := by
  unfold thereB
  rw [List.take_succ_eq_append_getElem hk, List.any_append]
  simp [Bool.or_assoc]
theorem there_all (L : IdL) : thereB L (repOf L) L.length = true := by
  unfold thereB
  cases L with
  | nil => rfl
  | cons x r =>
    rw [List.take_of_length_le (Nat.le_refl _), Bool.or_eq_true]
    exact .inr (List.any_eq_true.2 ⟨_, repOf_mem (by simp), decide_eq_true rfl⟩)
theorem there_zero (L : IdL) (rep : Idn) : thereB L rep 0 = ((L.length : Int) == 0) := by
  unfold thereB
  cases L with
  | nil => rfl
  | cons x r =>
    simp
    omega
theorem bnd_of {name s : Bytes} (hn : name.length ≤ 30) (hs : s.length ≤ 1500) : RcpB (rcpOf name s) := by
  have h1 := pieces_len s
  refine ⟨by show name.length ≤ _; omega, by show (-9223372036854775808 : Int) ≤ (s.length : Int); omega, by show (s.length : Int) ≤ 9223372036854775807; omega, prOf_lt s, by show (idsOf s).length ≤ _; unfold idsOf; rw [List.length_map]; omega, fun x hx => ?_⟩
  obtain ⟨q, hq, rfl⟩ := List.mem_map.1 hx
  have := pieces_max s q hq
  exact ⟨prOf_lt q, by show (-9223372036854775808 : Int) ≤ (q.length : Int); omega, by show (q.length : Int) ≤ 9223372036854775807; omega⟩
set_option maxRecDepth 100000 in
set_option maxHeartbeats 4000000 in
theorem RcBk_short (a : Nat → Addr) (n s p : ByteArray) (z : Int) (hlong : 30 < n.size ∨ 1500 < s.size ∨ 100 < p.size) (hn : n.size ≤ maxLen) (hs : s.size ≤ maxLen) (hp : p.size ≤ maxLen) (w : World) (h : RbW a w) :
    Calls Tryz.prog 6 #[.string n, .string s, .int .i64 z, .string p] w fun e w' => e = .returned (.bool true) ∧ Below w.heap.size w w' := by
  have CO := Lib.hid (cooked_any a w h)
  clear h
  by_cases h1 : 30 < n.size
  · have h1i : (n.size : Int) > 30 := by omega
    go_enter Tryz.func6, Tryz.ntmps6
    go_wp2_with fail
    refine CO.out.mono ?_
    rintro e w1 ⟨rfl, hb1⟩
    go_wp2
    go_ret
    exact ⟨rfl, hb1⟩
  · have h1i : ¬ (n.size : Int) > 30 := by omega
    by_cases h2 : 1500 < s.size
    · have h2i : (s.size : Int) > 1500 := by omega
      go_enter Tryz.func6, Tryz.ntmps6
      go_wp2_with fail
      refine CO.out.mono ?_
      rintro e w1 ⟨rfl, hb1⟩
      go_wp2
      go_ret
      exact ⟨rfl, hb1⟩
    · have h2i : ¬ (s.size : Int) > 1500 := by omega
      have h3i : (p.size : Int) > 100 := by omega
      go_enter Tryz.func6, Tryz.ntmps6
      go_wp2_with fail
      refine CO.out.mono ?_
      rintro e w1 ⟨rfl, hb1⟩
      go_wp2
      go_ret
      exact ⟨rfl, hb1⟩
set_option maxRecDepth 100000 in
set_option maxHeartbeats 4000000 in
theorem RcBk_bad (a : Nat → Addr) (n s p : ByteArray) (z : Int) (h1 : n.size ≤ 30) (h2 : s.size ≤ 1500) (h3 : p.size ≤ 100) (hN : isName n.data.toList = false) (w : World) (h : RbW a w) :
    Calls Tryz.prog 6 #[.string n, .string s, .int .i64 z, .string p] w fun e w' => e = .returned (.bool true) ∧ Below w.heap.size w w' := by
  have CO := Lib.hid (cooked_any a w h)
  have H := Lib.hid h
  have h1i : ¬ (n.size : Int) > 30 := by omega
  have h2i : ¬ (s.size : Int) > 1500 := by omega
  have h3i : ¬ (p.size : Int) > 100 := by omega
  have hO : ofRes n.data.toList s.data.toList = (4, rcpZero) := if_pos hN
  have HO := Lib.hid hO
  have hnm : n.size ≤ maxLen := by unfold maxLen; omega
  clear h hO hN
  go_enter Tryz.func6, Tryz.ntmps6
  go_wp2_with fail
  refine CO.out.mono ?_
  rintro e w1 ⟨rfl, hb1⟩
  have H1 := Lib.hid (H.out.below hb1)
  go_wp2_with fail
  refine (RcOf_any a n s hnm w1 H1.out.two).mono ?_
  rintro e w2 ⟨v, x, rfl, hev, hv, hb2⟩
  rw [HO.out] at hev hv
  obtain ⟨T, q, rfl⟩ := hev.some (by decide)
  obtain ⟨sl, hv, hrd⟩ := hv
  obtain ⟨A, c, rfl, hcap, _⟩ := hrd.form
  have hv' : v = .agg #[.string ⟨#[]⟩, .int .i64 0, .int .u32 0, .slice A 0 c] := hv
  subst hv'
  have hbx : Box4 w2.heap.size (.string ⟨#[]⟩) (.int .i64 0) (.int .u32 0) (.slice A 0 c) (w2.alloc (.cells #[.string ⟨#[]⟩, .int .i64 0, .int .u32 0, .slice A 0 c] 36)) := Box4.mk' _ _ _ _ _ _
  obtain ⟨c0, c1, c2, c3, _⟩ := hbx
  have HB9 := Lib.hid ((hb1.trans (hb2.mono hb1.size)).alloc (Nat.le_trans hb1.size hb2.size) (.cells #[.string ⟨#[]⟩, .int .i64 0, .int .u32 0, .slice A 0 c] 36))
  clear hb1 hb2 hev hrd hv
  go_wp2
  go_ret
  exact ⟨rfl, HB9.out⟩
set_option maxRecDepth 100000 in
set_option maxHeartbeats 8000000 in
theorem RcBk_main (a : Nat → Addr) (n s p : ByteArray) (z : Int) (h1 : n.size ≤ 30) (h2 : s.size ≤ 1500) (h3 : p.size ≤ 100) (hN : isName n.data.toList = true) (w : World) (h : RbW a w) :
    Calls Tryz.prog 6 #[.string n, .string s, .int .i64 z, .string p] w fun e w' => e = .returned (.bool true) ∧ Below w.heap.size w w' := by
  have CO := Lib.hid (cooked_any a w h)
  have H := Lib.hid h
  have h1i : ¬ (n.size : Int) > 30 := by omega
  have h2i : ¬ (s.size : Int) > 1500 := by omega
  have h3i : ¬ (p.size : Int) > 100 := by omega
  have hzn := size_toList n
  have hzs := size_toList s
  have hzp := size_toList p
  have hO : ofRes n.data.toList s.data.toList = (0, rcpOf n.data.toList s.data.toList) := by unfold ofRes; rw [if_neg (by rw [hN]; simp), if_neg (by omega)]
  have HO := Lib.hid hO
  have hf := rcpFault_of (name := n.data.toList) (s := s.data.toList) hN (by omega)
  have HF := Lib.hid hf
  have HBN := Lib.hid (bnd_of (name := n.data.toList) (s := s.data.toList) (by omega) (by omega))
  have HJN := Lib.hid (joinRes_of (name := n.data.toList) (s := s.data.toList) hN (by omega))
  have HSET := Lib.hid (fun (k : Nat) hk (e : idOf p.data.toList ≠ idOf (pieces s.data.toList)[k]) => joinRes_set (name := n.data.toList) (s := s.data.toList) (p := p.data.toList) hN (by omega) k hk e)
  have hrt := readRcp_text (r := rcpOf n.data.toList s.data.toList) (by rw [hf]) (prOf_lt _) (idsOf_lt _)
  have HRT := Lib.hid hrt
  have HTL := Lib.hid (rcpText_le (r := rcpOf n.data.toList s.data.toList) (by rw [hf]))
  have HTX : Hid (textRes (rcpOf n.data.toList s.data.toList) = rcpText (rcpOf n.data.toList s.data.toList)) := Lib.hid (if_pos (by rw [hf]))
  have HPM := Lib.hid (fun q (hq : q ∈ pieces s.data.toList) => pieces_max s.data.toList q hq)
  have HIDS : Hid ((rcpOf n.data.toList s.data.toList).ids = (pieces s.data.toList).map idOf) := Lib.hid rfl
  have HPL := Lib.hid (pieces_len s.data.toList)
  have HBS := Lib.hid (bs_of s)
  have HBP := Lib.hid (bs_of p)
  have HBN' := Lib.hid (bs_of n)
  have HNAME : Hid ((rcpOf n.data.toList s.data.toList).name = n.data.toList) := Lib.hid rfl
  have hnm : n.size ≤ maxLen := by unfold maxLen; omega
  have hpl : (pieces s.data.toList).length ≤ 1000000 := by have := pieces_len s.data.toList; omega
  have HPSZ := Lib.hid hzp
  have HSZ2 : Hid (s.data.toList.length ≤ 1500) := Lib.hid (by omega)
  clear h hO hN hf hrt hzn hzs hzp
  generalize hr : rcpOf n.data.toList s.data.toList = r at *
  generalize hps : pieces s.data.toList = ps at *
  clear hr
  go_enter Tryz.func6, Tryz.ntmps6
  go_wp2_with fail
  refine CO.out.mono ?_
  rintro e w1 ⟨rfl, hb1⟩
  have H1 := Lib.hid (H.out.below hb1)
  go_wp2_with fail
  refine (RcOf_any a n s hnm w1 H1.out.two).mono ?_
  rintro e w2 ⟨v, x, rfl, hev, hv, hb2⟩
  rw [HO.out] at hev hv
  obtain ⟨rfl, _⟩ := hev.nil rfl
  obtain ⟨sl, rfl, hrd⟩ := hv
  obtain ⟨A, c, rfl, hcap, _⟩ := hrd.form
  have hb12 := hb1.trans (hb2.mono hb1.size)
  have hA := (Below.refl w2.heap.size w2).alloc (Nat.le_refl _) (.cells #[VT r.name, .int .i64 r.len, .int .u32 (r.print : Int), .slice A r.ids.length c] 36)
  have hbx : Box4 w2.heap.size (VT r.name) (.int .i64 r.len) (.int .u32 (r.print : Int)) (.slice A r.ids.length c) (w2.alloc (.cells #[VT r.name, .int .i64 r.len, .int .u32 (r.print : Int), .slice A r.ids.length c] 36)) := Box4.mk' _ _ _ _ _ _
  have hrd3 := hrd.keep hA (Nat.le_refl _)
  have HB3 := Lib.hid (hb12.trans (hA.mono hb12.size))
  have HB12 := Lib.hid hb12
  have HRD2 := Lib.hid hrd
  have HBA := Lib.hid hA
  have hlt2 : w2.heap.size < (w2.alloc (.cells #[VT r.name, .int .i64 r.len, .int .u32 (r.print : Int), .slice A r.ids.length c] 36)).heap.size := by simp
  clear hb1 hb2 hb12 hev hrd hrd3 hA
  go_wp2_with fail
  generalize w2.alloc (.cells #[VT r.name, .int .i64 r.len, .int .u32 (r.print : Int), .slice A r.ids.length c] 36) = w3 at *
  refine (Pieces_any s (by omega) w3).mono ?_
  rintro e w4 ⟨lv, rfl, ho4, hb4⟩
  rw [hps] at ho4
  have hlv := own_formI ho4
  obtain ⟨AL, cl, rfl⟩ := hlv
  have HO4 := Lib.hid ho4
  have hb24 : Below w2.heap.size w2 w4 := HBA.out.trans (hb4.mono HBA.out.size)
  have hb04 := HB3.out.trans (hb4.mono HB3.out.size)
  have HB04 := Lib.hid hb04
  have HB24 := Lib.hid hb24
  have hbx4 := hbx.below hb4 hlt2
  have HBX4 := Lib.hid hbx4
  have HV4 : Hid (RcpV w4 w4.heap.size (.agg #[VT r.name, .int .i64 r.len, .int .u32 (r.print : Int), .slice A r.ids.length c]) r) := Lib.hid ⟨_, rfl, (HRD2.out.keep hb24 (Nat.le_refl _)).more hb24.size⟩
  have HL4 := Lib.hid (Rd.own (n := ps.length) ho4)
  obtain ⟨c0, c1, c2, c3, _⟩ := hbx4
  have JN := Lib.hid (RcJoin_any a _ (.slice AL ps.length cl) r HBN.out ps hpl (fun q hq => by have := HPM.out q hq; omega) w4 HV4.out HL4.out ((H.out.below hb04).five))
  clear hb4 hb24 hb04 ho4
  go_wp2_with fail
  refine JN.out.mono ?_
  rintro e w5 ⟨x, rfl, hev, hb5⟩
  rw [HJN.out] at hev ⊢
  obtain ⟨rfl, _⟩ := hev.nil rfl
  have H5 := Lib.hid (H.out.below (HB04.out.trans (hb5.mono HB04.out.size)))
  have HB05 := Lib.hid (HB04.out.trans (hb5.mono HB04.out.size))
  have HBX5 := Lib.hid (HBX4.out.below hb5 HBX4.out.lt)
  have HV5 := Lib.hid (HV4.out.below hb5)
  have HO5 := Lib.hid (own_belowI HO4.out hb5)
  obtain ⟨c0, c1, c2, c3, _⟩ := HBX5.out
  have TX := Lib.hid (RcText_any a _ r HBN.out w5 HV5.out H5.out.five H5.out.t)
  clear hev hb5
  go_wp2_with fail
  refine TX.out.mono ?_
  rintro e w6 ⟨x, rfl, hev, hb6⟩
  rw [HTX.out]
  rw [HF.out] at hev
  obtain ⟨rfl, _⟩ := hev.nil rfl
  have HB06 := Lib.hid (HB05.out.trans (hb6.mono HB05.out.size))
  have H6 := Lib.hid (H.out.below HB06.out)
  have HBX6 := Lib.hid (HBX5.out.below hb6 HBX5.out.lt)
  have HV6 := Lib.hid (HV5.out.below hb6)
  have HO6 := Lib.hid (own_belowI HO5.out hb6)
  have RD := Lib.hid (RcRead_any a (bs (rcpText r)) (by rw [bs_size]; have := HTL.out; omega) w6 H6.out.rc)
  clear hev hb6
  go_wp2_with fail
  refine RD.out.mono ?_
  rintro e w7 ⟨bv, x, rfl, hev, hbv, hb7⟩
  rw [bs_toList] at hev hbv
  have hre : readErr (rcpText r) = (0, -1) := by unfold readErr; rw [HRT.out]
  have hrv : readVal (rcpText r) = r := by unfold readVal; rw [HRT.out]
  rw [hre] at hev
  rw [hrv] at hbv
  have hbv := hbv.v
  obtain ⟨rfl, _⟩ := hev.nil rfl
  obtain ⟨sb, rfl, hrb⟩ := hbv
  obtain ⟨A', c', rfl, hcap', _⟩ := hrb.form
  have HB07 := Lib.hid (HB06.out.trans (hb7.mono HB06.out.size))
  have HBX7 := Lib.hid (HBX6.out.below hb7 HBX6.out.lt)
  have HV7 := Lib.hid (HV6.out.below hb7)
  have HO7 := Lib.hid (own_belowI HO6.out hb7)
  have hA8 := (Below.refl w7.heap.size w7).alloc (Nat.le_refl _) (.cells #[VT r.name, .int .i64 r.len, .int .u32 (r.print : Int), .slice A' r.ids.length c'] 36)
  have HA8 := Lib.hid hA8
  have hbx8 := HBX7.out.below hA8 HBX7.out.lt
  have HBX8 := Lib.hid hbx8
  obtain ⟨c0, c1, c2, c3, _⟩ := hbx8
  have hr8l : r.ids.length ≤ 1000000 := HBN.out.c
  have SM := Lib.hid (SameRecipe_same (.agg #[VT r.name, .int .i64 r.len, .int .u32 (r.print : Int), .slice A' r.ids.length c']) (.agg #[VT r.name, .int .i64 r.len, .int .u32 (r.print : Int), .slice A r.ids.length c]) r hr8l (w7.alloc (.cells #[VT r.name, .int .i64 r.len, .int .u32 (r.print : Int), .slice A' r.ids.length c'] 36)) ⟨_, rfl, (hrb.keep hA8 (Nat.le_refl _)).more hA8.size⟩ (HV7.out.below hA8))
  clear hev hb7 hrb hre hrv hA8
  go_wp2_with fail
  refine SM.out.mono ?_
  rintro e w9 ⟨rfl, hb9⟩
  have hb79 := HA8.out.trans (hb9.mono HA8.out.size)
  have HB09 := Lib.hid (HB07.out.trans (hb79.mono HB07.out.size))
  have H9 := Lib.hid (H.out.below HB09.out)
  have HBX9 := Lib.hid (HBX7.out.below hb79 HBX7.out.lt)
  have HV9 := Lib.hid (HV7.out.below hb79)
  have HO9 := Lib.hid (own_belowI HO7.out hb79)
  have CK := Lib.hid (RcCheck_any a _ r HBN.out w9 HV9.out H9.out.five)
  obtain ⟨c0, c1, c2, c3, _⟩ := HBX9.out
  have hss : (bs s.data.toList).toList = s.toList := by rw [HBS.out]
  clear hb9 hb79
  go_wp2_with fail
  refine CK.out.mono ?_
  rintro e w10 ⟨x, rfl, hev, hb10⟩
  rw [HF.out] at hev
  obtain ⟨rfl, _⟩ := hev.nil rfl
  have HB10 := Lib.hid (HB09.out.trans (hb10.mono HB09.out.size))
  have HBX10 := Lib.hid (HBX9.out.below hb10 HBX9.out.lt)
  have HV10 := Lib.hid (HV9.out.below hb10)
  have HO10 := Lib.hid (own_belowI HO9.out hb10)
  have RP := Lib.hid (RcRep_any _ r hr8l w10 HV10.out)
  obtain ⟨c0, c1, c2, c3, _⟩ := HBX10.out
  clear hb10 hev
  go_wp2_with fail
  refine RP.out.mono ?_
  rintro e w11 ⟨rfl, hb11⟩
  have hA12 := hb11.alloc hb11.size (.cells #[.int .u32 ((repOf r.ids).1 : Int), .int .i64 (repOf r.ids).2] 71)
  have hrp12 : Box2 w11.heap.size (.int .u32 ((repOf r.ids).1 : Int)) (.int .i64 (repOf r.ids).2) (w11.alloc (.cells #[.int .u32 ((repOf r.ids).1 : Int), .int .i64 (repOf r.ids).2] 71)) := Box2.mk' _ _ _ _
  have hbx12 := HBX10.out.below hA12 HBX10.out.lt
  have HBX12 := Lib.hid hbx12
  have HRP12 := Lib.hid hrp12
  have HV12 := Lib.hid (HV10.out.below hA12)
  have HO12 := Lib.hid (own_belowI HO10.out hA12)
  have HB12 := Lib.hid (HB10.out.trans (hA12.mono HB10.out.size))
  have HLN : Hid (r.ids.length = ps.length) := Lib.hid (by rw [HIDS.out, List.length_map])
  have HEL : Hid (∀ k (hk : k < ps.length), r.ids[k]'(by rw [HLN.out]; exact hk) = idOf ps[k]) := Lib.hid (fun k hk => by simp [HIDS.out])
  obtain ⟨sl', hsl', hri'⟩ := HV12.out
  injection hsl' with hsl'
  obtain ⟨A9, c9, hv9, _, hri⟩ := hri'.form
  have hsl2 : (Value.slice A r.ids.length c) = sl' := by
    have := congrArg (fun a => a[3]?) hsl'
    simpa using this
  rw [← hsl2] at hv9
  injection hv9 with q1 q2 q3
  subst q1
  have HRI12 := Lib.hid hri
  obtain ⟨A8, c8, hv8, _, hrl⟩ := own_rdI HO12.out
  injection hv8 with q4 q5 q6
  subst q4
  have HRL12 := Lib.hid hrl
  have HT0 := Lib.hid (there_zero r.ids (repOf r.ids))
  obtain ⟨c0, c1, c2, c3, _⟩ := hbx12
  clear hb11 hA12 hrp12 hsl' hri' hri hsl2 q2 q3 hrl q5 q6
  go_wp2
  generalize w11.alloc (.cells #[.int .u32 ((repOf r.ids).1 : Int), .int .i64 (repOf r.ids).2] 71) = w12 at *
  go_loopg [21, 22] ps.length (fun gh vt vi wr => ∃ k : Nat, vi = .int .i64 k ∧ vt = .bool (thereB r.ids (repOf r.ids) k) ∧ k ≤ ps.length ∧ gh = ps.length - k ∧ Below w12.heap.size w12 wr)
  case atStart => exact ⟨0, rfl, by rw [HT0.out], Nat.zero_le _, rfl, Below.refl _ _⟩
  case round =>
    obtain ⟨k, rfl, rfl, hk, hgm, hB⟩ := hrel
    have HBXr := Lib.hid (HBX12.out.below hB HBX12.out.lt)
    have HRPr := Lib.hid (HRP12.out.below hB HRP12.out.lt)
    have HB9 := Lib.hid (HB12.out.trans (hB.mono HB12.out.size))
    have er3 := HBXr.out.c3
    by_cases hkl : k < ps.length
    · obtain ⟨g, o, rfl, hg, hx⟩ := HRI12.out (by rw [HLN.out]; omega)
      obtain ⟨x0, x1⟩ := hx k (by rw [HLN.out]; exact hkl)
      rw [HEL.out k hkl] at x0 x1
      obtain ⟨gl, rfl, hgl0, hgl, hxl⟩ := HRL12.out (by omega)
      have z0 : w12.cell? ⟨gl, k, none⟩ = some (.string (bs ps[k])) := hxl k _ (by simp [hkl])
      have Y0 : Hid (wr.cell? ⟨g, o + k * 2, none⟩ = some (.int .u32 ((prOf ps[k] : Nat) : Int))) := Lib.hid ((hB.cell (p := ⟨g, o + k * 2, none⟩) hg).trans x0)
      have Y1 : Hid (wr.cell? ⟨g, o + k * 2 + 1, none⟩ = some (.int .i64 (ps[k].length : Int))) := Lib.hid ((hB.cell (p := ⟨g, o + k * 2 + 1, none⟩) hg).trans x1)
      have ZL := Lib.hid ((hB.cell (p := ⟨gl, k, none⟩) hgl).trans z0)
      have hgr : g < wr.heap.size := Nat.lt_of_lt_of_le hg hB.size
      have hglr : gl < wr.heap.size := Nat.lt_of_lt_of_le hgl hB.size
      have b1 : (0 : Int) ≤ (k : Int) := by omega
      have b2 : (k : Int) < (ps.length : Int) := by omega
      have b3 : (k : Int) < (r.ids.length : Int) := by rw [HLN.out]; exact b2
      have hpz : (bs ps[k]).size ≤ maxLen := by
        rw [bs_size]
        have := HPM.out ps[k] (List.getElem_mem hkl)
        unfold maxLen; omega
      have HBT := Lib.hid (bs_toList ps[k])
      have HBZ := Lib.hid (bs_size ps[k])
      have HLF : Hid (lessId (prOf ps[k]) (repOf r.ids).1 (ps[k].length : Int) (repOf r.ids).2 = false) := Lib.hid (by
        have := repOf_le r.ids (r.ids[k]'(by rw [HLN.out]; exact hkl)) (List.getElem_mem _)
        rw [HEL.out k hkl] at this
        exact this)
      have hnx := there_next (L := r.ids) (rep := repOf r.ids) (k := k) (by rw [HLN.out]; exact hkl)
      rw [HEL.out k hkl] at hnx
      have HNX := Lib.hid hnx
      clear hx x0 x1 hxl z0 hnx hgl0
      cases hbt : thereB r.ids (repOf r.ids) k with
      | true =>
        have HNT : Hid (thereB r.ids (repOf r.ids) (k + 1) = true) := Lib.hid (by rw [HNX.out, hbt]; rfl)
        clear hbt
        go_wp2
        have hS0 : Below wr.heap.size wr wr.drew := (Below.refl _ _).drew
        refine region_S (fun w' => Below wr.heap.size wr w') 8 (by kernel_rfl) (by kernel_rfl) ?_
        refine take_S 0 rfl (by kernel_rfl) (by kernel_rfl) hS0 (fun w' hS => by go_simp; rfl) ?_
        refine take_S 1 rfl (by kernel_rfl) (by kernel_rfl) hS0 (fun w' hS => by go_simp; rfl) ?_
        refine skip_S 2 rfl (by kernel_rfl) (by kernel_rfl) hS0 ?_
        refine skip_S 3 rfl (by kernel_rfl) (by kernel_rfl) hS0 ?_
        refine skip_S 4 rfl (by kernel_rfl) (by kernel_rfl) hS0 ?_
        refine skip_S 5 rfl (by kernel_rfl) (by kernel_rfl) hS0 ?_
        refine skip_S 6 rfl (by kernel_rfl) (by kernel_rfl) hS0 ?_
        refine skip_S 7 rfl (by kernel_rfl) (by kernel_rfl) hS0 (forced_S (by kernel_rfl) ?_)
        try simp only [Act.put, List.getElem_toArray, List.getElem_cons_succ, List.getElem_cons_zero, List.setIfInBounds_toArray, List.set_cons_zero, List.set_cons_succ]
        simp only [List.drop_succ_cons, List.drop_zero]
        clear hS0
        go_wp2
        have hS0 : Below wr.heap.size wr wr.drew.drew := (Below.refl _ _).drew.drew
        refine region_S (fun w' => Below wr.heap.size wr w') 18 (by kernel_rfl) (by kernel_rfl) ?_
        refine take_S 0 rfl (by kernel_rfl) (by kernel_rfl) hS0 (fun w' hS => by go_simp; rfl) ?_
        refine take_S 1 rfl (by kernel_rfl) (by kernel_rfl) hS0 (fun w' hS => by have A3 := (HBXr.out.below hS HBXr.out.lt).c3; go_simp; rfl) ?_
        refine take_S 2 rfl (by kernel_rfl) (by kernel_rfl) hS0 (fun w' hS => by go_simp; rfl) ?_
        refine take_S 3 rfl (by kernel_rfl) (by kernel_rfl) hS0 (fun w' hS => by go_simp; rfl) ?_
        refine take_S 4 rfl (by kernel_rfl) (by kernel_rfl) hS0 (fun w' hS => by have B0 := (hS.cell (p := ⟨g, o + k * 2, none⟩) hgr).trans Y0.out; have B1 := (hS.cell (p := ⟨g, o + k * 2 + 1, none⟩) hgr).trans Y1.out; go_simp; rfl) ?_
        refine take_S 5 rfl (by kernel_rfl) (by kernel_rfl) hS0 (fun w' hS => by have B0 := (HRPr.out.below hS HRPr.out.lt).c0; have B1 := (HRPr.out.below hS HRPr.out.lt).c1; go_simp; rfl) ?_
        refine carry_S 6 rfl (by kernel_rfl) (by decide) (by kernel_rfl) (fun K hK => ?_)
        go_simp
        refine (PLess_any (prOf ps[k]) (repOf r.ids).1 (ps[k].length : Int) (repOf r.ids).2 _).mono ?_
        rintro e w13 ⟨rfl, hb13⟩
        rw [HLF.out]
        have hS13 : Below wr.heap.size wr w13 := hS0.trans hb13
        refine hK _ _ hS13 ?_
        clear hK K
        try simp only [Act.put, List.getElem_toArray, List.getElem_cons_succ, List.getElem_cons_zero, List.setIfInBounds_toArray, List.set_cons_zero, List.set_cons_succ]
        refine take_S 7 rfl (by kernel_rfl) (by kernel_rfl) hS13 (fun w' hS => by go_simp; rfl) ?_
        refine take_S 8 rfl (by kernel_rfl) (by kernel_rfl) hS13 (fun w' hS => by go_simp; rfl) ?_
        refine take_S 9 rfl (by kernel_rfl) (by kernel_rfl) hS13 (fun w' hS => by have A3 := (HBXr.out.below hS HBXr.out.lt).c3; go_simp; rfl) ?_
        refine take_S 10 rfl (by kernel_rfl) (by kernel_rfl) hS13 (fun w' hS => by go_simp; rfl) ?_
        refine take_S 11 rfl (by kernel_rfl) (by kernel_rfl) hS13 (fun w' hS => by go_simp; rfl) ?_
        refine take_S 12 rfl (by kernel_rfl) (by kernel_rfl) hS13 (fun w' hS => by have B0 := (hS.cell (p := ⟨g, o + k * 2, none⟩) hgr).trans Y0.out; have B1 := (hS.cell (p := ⟨g, o + k * 2 + 1, none⟩) hgr).trans Y1.out; go_simp; rfl) ?_
        refine take_S 13 rfl (by kernel_rfl) (by kernel_rfl) hS13 (fun w' hS => by go_simp; rfl) ?_
        refine take_S 14 rfl (by kernel_rfl) (by kernel_rfl) hS13 (fun w' hS => by go_simp; rfl) ?_
        refine take_S 15 rfl (by kernel_rfl) (by kernel_rfl) hS13 (fun w' hS => by go_simp; rfl) ?_
        refine take_S 16 rfl (by kernel_rfl) (by kernel_rfl) hS13 (fun w' hS => by have Z0 := (hS.cell (p := ⟨gl, k, none⟩) hglr).trans ZL.out; go_simp; rfl) ?_
        refine carry_S 17 rfl (by kernel_rfl) (by decide) (by kernel_rfl) (fun K hK => ?_)
        go_simp
        refine (ID_any (bs ps[k]) _ hpz).mono ?_
        rintro e w14 ⟨rfl, hb14⟩
        have hS14 : Below wr.heap.size wr w14 := hS13.trans (hb14.mono hS13.size)
        rw [HBT.out, HBZ.out]
        refine hK _ _ hS14 (forced_S (by kernel_rfl) ?_)
        clear hK K
        try simp only [Act.put, List.getElem_toArray, List.getElem_cons_succ, List.getElem_cons_zero, List.setIfInBounds_toArray, List.set_cons_zero, List.set_cons_succ]
        simp only [List.drop_succ_cons, List.drop_zero]
        have HB14 := Lib.hid (hB.trans (hS14.mono hB.size))
        clear hS0 hS13 hS14 hb13 hb14
        go_wp2
        go_roundg (ps.length - (k + 1))
        case measure => omega
        case rel => exact ⟨k + 1, by go_num, by rw [HNT.out], hkl, rfl, HB14.out⟩
      | false =>
        by_cases hrp : idOf ps[k] = repOf r.ids
        · have HNT : Hid (thereB r.ids (repOf r.ids) (k + 1) = true) := Lib.hid (by rw [HNX.out, hbt, decide_eq_true hrp]; rfl)
          obtain ⟨t1, t2⟩ := idn_eqs hrp
          clear hbt hrp
          simp only [idOf] at t1 t2
          go_wp2
          have hS0 : Below wr.heap.size wr wr.drew := (Below.refl _ _).drew
          refine region_S (fun w' => Below wr.heap.size wr w') 8 (by kernel_rfl) (by kernel_rfl) ?_
          refine take_S 0 rfl (by kernel_rfl) (by kernel_rfl) hS0 (fun w' hS => by go_simp; rfl) ?_
          refine take_S 1 rfl (by kernel_rfl) (by kernel_rfl) hS0 (fun w' hS => by go_simp; rfl) ?_
          refine take_S 2 rfl (by kernel_rfl) (by kernel_rfl) hS0 (fun w' hS => by go_simp; rfl) ?_
          refine take_S 3 rfl (by kernel_rfl) (by kernel_rfl) hS0 (fun w' hS => by have A3 := (HBXr.out.below hS HBXr.out.lt).c3; go_simp; rfl) ?_
          refine take_S 4 rfl (by kernel_rfl) (by kernel_rfl) hS0 (fun w' hS => by go_simp; rfl) ?_
          refine take_S 5 rfl (by kernel_rfl) (by kernel_rfl) hS0 (fun w' hS => by go_simp; rfl) ?_
          refine take_S 6 rfl (by kernel_rfl) (by kernel_rfl) hS0 (fun w' hS => by have B0 := (hS.cell (p := ⟨g, o + k * 2, none⟩) hgr).trans Y0.out; have B1 := (hS.cell (p := ⟨g, o + k * 2 + 1, none⟩) hgr).trans Y1.out; go_simp; rfl) ?_
          refine take_S 7 rfl (by kernel_rfl) (by kernel_rfl) hS0 (fun w' hS => by have B0 := (HRPr.out.below hS HRPr.out.lt).c0; have B1 := (HRPr.out.below hS HRPr.out.lt).c1; go_simp; rfl) (forced_S (by kernel_rfl) ?_)
          try simp only [Act.put, List.getElem_toArray, List.getElem_cons_succ, List.getElem_cons_zero, List.setIfInBounds_toArray, List.set_cons_zero, List.set_cons_succ]
          simp only [List.drop_succ_cons, List.drop_zero]
          clear hS0
          go_wp2
          have hS0 : Below wr.heap.size wr wr.drew.drew := (Below.refl _ _).drew.drew
          refine region_S (fun w' => Below wr.heap.size wr w') 18 (by kernel_rfl) (by kernel_rfl) ?_
          refine take_S 0 rfl (by kernel_rfl) (by kernel_rfl) hS0 (fun w' hS => by go_simp; rfl) ?_
          refine take_S 1 rfl (by kernel_rfl) (by kernel_rfl) hS0 (fun w' hS => by have A3 := (HBXr.out.below hS HBXr.out.lt).c3; go_simp; rfl) ?_
          refine take_S 2 rfl (by kernel_rfl) (by kernel_rfl) hS0 (fun w' hS => by go_simp; rfl) ?_
          refine take_S 3 rfl (by kernel_rfl) (by kernel_rfl) hS0 (fun w' hS => by go_simp; rfl) ?_
          refine take_S 4 rfl (by kernel_rfl) (by kernel_rfl) hS0 (fun w' hS => by have B0 := (hS.cell (p := ⟨g, o + k * 2, none⟩) hgr).trans Y0.out; have B1 := (hS.cell (p := ⟨g, o + k * 2 + 1, none⟩) hgr).trans Y1.out; go_simp; rfl) ?_
          refine take_S 5 rfl (by kernel_rfl) (by kernel_rfl) hS0 (fun w' hS => by have B0 := (HRPr.out.below hS HRPr.out.lt).c0; have B1 := (HRPr.out.below hS HRPr.out.lt).c1; go_simp; rfl) ?_
          refine carry_S 6 rfl (by kernel_rfl) (by decide) (by kernel_rfl) (fun K hK => ?_)
          go_simp
          refine (PLess_any (prOf ps[k]) (repOf r.ids).1 (ps[k].length : Int) (repOf r.ids).2 _).mono ?_
          rintro e w13 ⟨rfl, hb13⟩
          rw [HLF.out]
          have hS13 : Below wr.heap.size wr w13 := hS0.trans hb13
          refine hK _ _ hS13 ?_
          clear hK K
          try simp only [Act.put, List.getElem_toArray, List.getElem_cons_succ, List.getElem_cons_zero, List.setIfInBounds_toArray, List.set_cons_zero, List.set_cons_succ]
          refine take_S 7 rfl (by kernel_rfl) (by kernel_rfl) hS13 (fun w' hS => by go_simp; rfl) ?_
          refine take_S 8 rfl (by kernel_rfl) (by kernel_rfl) hS13 (fun w' hS => by go_simp; rfl) ?_
          refine take_S 9 rfl (by kernel_rfl) (by kernel_rfl) hS13 (fun w' hS => by have A3 := (HBXr.out.below hS HBXr.out.lt).c3; go_simp; rfl) ?_
          refine take_S 10 rfl (by kernel_rfl) (by kernel_rfl) hS13 (fun w' hS => by go_simp; rfl) ?_
          refine take_S 11 rfl (by kernel_rfl) (by kernel_rfl) hS13 (fun w' hS => by go_simp; rfl) ?_
          refine take_S 12 rfl (by kernel_rfl) (by kernel_rfl) hS13 (fun w' hS => by have B0 := (hS.cell (p := ⟨g, o + k * 2, none⟩) hgr).trans Y0.out; have B1 := (hS.cell (p := ⟨g, o + k * 2 + 1, none⟩) hgr).trans Y1.out; go_simp; rfl) ?_
          refine take_S 13 rfl (by kernel_rfl) (by kernel_rfl) hS13 (fun w' hS => by go_simp; rfl) ?_
          refine take_S 14 rfl (by kernel_rfl) (by kernel_rfl) hS13 (fun w' hS => by go_simp; rfl) ?_
          refine take_S 15 rfl (by kernel_rfl) (by kernel_rfl) hS13 (fun w' hS => by go_simp; rfl) ?_
          refine take_S 16 rfl (by kernel_rfl) (by kernel_rfl) hS13 (fun w' hS => by have Z0 := (hS.cell (p := ⟨gl, k, none⟩) hglr).trans ZL.out; go_simp; rfl) ?_
          refine carry_S 17 rfl (by kernel_rfl) (by decide) (by kernel_rfl) (fun K hK => ?_)
          go_simp
          refine (ID_any (bs ps[k]) _ hpz).mono ?_
          rintro e w14 ⟨rfl, hb14⟩
          have hS14 : Below wr.heap.size wr w14 := hS13.trans (hb14.mono hS13.size)
          rw [HBT.out, HBZ.out]
          refine hK _ _ hS14 (forced_S (by kernel_rfl) ?_)
          clear hK K
          try simp only [Act.put, List.getElem_toArray, List.getElem_cons_succ, List.getElem_cons_zero, List.setIfInBounds_toArray, List.set_cons_zero, List.set_cons_succ]
          simp only [List.drop_succ_cons, List.drop_zero]
          have HB14 := Lib.hid (hB.trans (hS14.mono hB.size))
          clear hS0 hS13 hS14 hb13 hb14
          go_wp2
          go_roundg (ps.length - (k + 1))
          case measure => omega
          case rel => exact ⟨k + 1, by go_num, by rw [HNT.out], hkl, rfl, HB14.out⟩
        · have HNT : Hid (thereB r.ids (repOf r.ids) (k + 1) = false) := Lib.hid (by rw [HNX.out, hbt, decide_eq_false hrp]; rfl)
          have hne := idn_ne hrp
          clear hbt hrp
          simp only [idOf] at hne
          rcases hne with t1 | ⟨t1, t2⟩
          · go_wp2
            have hS0 : Below wr.heap.size wr wr.drew := (Below.refl _ _).drew
            refine region_S (fun w' => Below wr.heap.size wr w') 8 (by kernel_rfl) (by kernel_rfl) ?_
            refine take_S 0 rfl (by kernel_rfl) (by kernel_rfl) hS0 (fun w' hS => by go_simp; rfl) ?_
            refine take_S 1 rfl (by kernel_rfl) (by kernel_rfl) hS0 (fun w' hS => by go_simp; rfl) ?_
            refine take_S 2 rfl (by kernel_rfl) (by kernel_rfl) hS0 (fun w' hS => by go_simp; rfl) ?_
            refine take_S 3 rfl (by kernel_rfl) (by kernel_rfl) hS0 (fun w' hS => by have A3 := (HBXr.out.below hS HBXr.out.lt).c3; go_simp; rfl) ?_
            refine take_S 4 rfl (by kernel_rfl) (by kernel_rfl) hS0 (fun w' hS => by go_simp; rfl) ?_
            refine take_S 5 rfl (by kernel_rfl) (by kernel_rfl) hS0 (fun w' hS => by go_simp; rfl) ?_
            refine take_S 6 rfl (by kernel_rfl) (by kernel_rfl) hS0 (fun w' hS => by have B0 := (hS.cell (p := ⟨g, o + k * 2, none⟩) hgr).trans Y0.out; have B1 := (hS.cell (p := ⟨g, o + k * 2 + 1, none⟩) hgr).trans Y1.out; go_simp; rfl) ?_
            refine take_S 7 rfl (by kernel_rfl) (by kernel_rfl) hS0 (fun w' hS => by have B0 := (HRPr.out.below hS HRPr.out.lt).c0; have B1 := (HRPr.out.below hS HRPr.out.lt).c1; go_simp; rfl) (forced_S (by kernel_rfl) ?_)
            try simp only [Act.put, List.getElem_toArray, List.getElem_cons_succ, List.getElem_cons_zero, List.setIfInBounds_toArray, List.set_cons_zero, List.set_cons_succ]
            simp only [List.drop_succ_cons, List.drop_zero]
            clear hS0
            go_wp2
            have hS0 : Below wr.heap.size wr wr.drew.drew := (Below.refl _ _).drew.drew
            refine region_S (fun w' => Below wr.heap.size wr w') 18 (by kernel_rfl) (by kernel_rfl) ?_
            refine take_S 0 rfl (by kernel_rfl) (by kernel_rfl) hS0 (fun w' hS => by go_simp; rfl) ?_
            refine take_S 1 rfl (by kernel_rfl) (by kernel_rfl) hS0 (fun w' hS => by have A3 := (HBXr.out.below hS HBXr.out.lt).c3; go_simp; rfl) ?_
            refine take_S 2 rfl (by kernel_rfl) (by kernel_rfl) hS0 (fun w' hS => by go_simp; rfl) ?_
            refine take_S 3 rfl (by kernel_rfl) (by kernel_rfl) hS0 (fun w' hS => by go_simp; rfl) ?_
            refine take_S 4 rfl (by kernel_rfl) (by kernel_rfl) hS0 (fun w' hS => by have B0 := (hS.cell (p := ⟨g, o + k * 2, none⟩) hgr).trans Y0.out; have B1 := (hS.cell (p := ⟨g, o + k * 2 + 1, none⟩) hgr).trans Y1.out; go_simp; rfl) ?_
            refine take_S 5 rfl (by kernel_rfl) (by kernel_rfl) hS0 (fun w' hS => by have B0 := (HRPr.out.below hS HRPr.out.lt).c0; have B1 := (HRPr.out.below hS HRPr.out.lt).c1; go_simp; rfl) ?_
            refine carry_S 6 rfl (by kernel_rfl) (by decide) (by kernel_rfl) (fun K hK => ?_)
            go_simp
            refine (PLess_any (prOf ps[k]) (repOf r.ids).1 (ps[k].length : Int) (repOf r.ids).2 _).mono ?_
            rintro e w13 ⟨rfl, hb13⟩
            rw [HLF.out]
            have hS13 : Below wr.heap.size wr w13 := hS0.trans hb13
            refine hK _ _ hS13 ?_
            clear hK K
            try simp only [Act.put, List.getElem_toArray, List.getElem_cons_succ, List.getElem_cons_zero, List.setIfInBounds_toArray, List.set_cons_zero, List.set_cons_succ]
            refine take_S 7 rfl (by kernel_rfl) (by kernel_rfl) hS13 (fun w' hS => by go_simp; rfl) ?_
            refine take_S 8 rfl (by kernel_rfl) (by kernel_rfl) hS13 (fun w' hS => by go_simp; rfl) ?_
            refine take_S 9 rfl (by kernel_rfl) (by kernel_rfl) hS13 (fun w' hS => by have A3 := (HBXr.out.below hS HBXr.out.lt).c3; go_simp; rfl) ?_
            refine take_S 10 rfl (by kernel_rfl) (by kernel_rfl) hS13 (fun w' hS => by go_simp; rfl) ?_
            refine take_S 11 rfl (by kernel_rfl) (by kernel_rfl) hS13 (fun w' hS => by go_simp; rfl) ?_
            refine take_S 12 rfl (by kernel_rfl) (by kernel_rfl) hS13 (fun w' hS => by have B0 := (hS.cell (p := ⟨g, o + k * 2, none⟩) hgr).trans Y0.out; have B1 := (hS.cell (p := ⟨g, o + k * 2 + 1, none⟩) hgr).trans Y1.out; go_simp; rfl) ?_
            refine take_S 13 rfl (by kernel_rfl) (by kernel_rfl) hS13 (fun w' hS => by go_simp; rfl) ?_
            refine take_S 14 rfl (by kernel_rfl) (by kernel_rfl) hS13 (fun w' hS => by go_simp; rfl) ?_
            refine take_S 15 rfl (by kernel_rfl) (by kernel_rfl) hS13 (fun w' hS => by go_simp; rfl) ?_
            refine take_S 16 rfl (by kernel_rfl) (by kernel_rfl) hS13 (fun w' hS => by have Z0 := (hS.cell (p := ⟨gl, k, none⟩) hglr).trans ZL.out; go_simp; rfl) ?_
            refine carry_S 17 rfl (by kernel_rfl) (by decide) (by kernel_rfl) (fun K hK => ?_)
            go_simp
            refine (ID_any (bs ps[k]) _ hpz).mono ?_
            rintro e w14 ⟨rfl, hb14⟩
            have hS14 : Below wr.heap.size wr w14 := hS13.trans (hb14.mono hS13.size)
            rw [HBT.out, HBZ.out]
            refine hK _ _ hS14 (forced_S (by kernel_rfl) ?_)
            clear hK K
            try simp only [Act.put, List.getElem_toArray, List.getElem_cons_succ, List.getElem_cons_zero, List.setIfInBounds_toArray, List.set_cons_zero, List.set_cons_succ]
            simp only [List.drop_succ_cons, List.drop_zero]
            have HB14 := Lib.hid (hB.trans (hS14.mono hB.size))
            clear hS0 hS13 hS14 hb13 hb14
            go_wp2
            go_roundg (ps.length - (k + 1))
            case measure => omega
            case rel => exact ⟨k + 1, by go_num, by rw [HNT.out], hkl, rfl, HB14.out⟩
          · go_wp2
            have hS0 : Below wr.heap.size wr wr.drew := (Below.refl _ _).drew
            refine region_S (fun w' => Below wr.heap.size wr w') 8 (by kernel_rfl) (by kernel_rfl) ?_
            refine take_S 0 rfl (by kernel_rfl) (by kernel_rfl) hS0 (fun w' hS => by go_simp; rfl) ?_
            refine take_S 1 rfl (by kernel_rfl) (by kernel_rfl) hS0 (fun w' hS => by go_simp; rfl) ?_
            refine take_S 2 rfl (by kernel_rfl) (by kernel_rfl) hS0 (fun w' hS => by go_simp; rfl) ?_
            refine take_S 3 rfl (by kernel_rfl) (by kernel_rfl) hS0 (fun w' hS => by have A3 := (HBXr.out.below hS HBXr.out.lt).c3; go_simp; rfl) ?_
            refine take_S 4 rfl (by kernel_rfl) (by kernel_rfl) hS0 (fun w' hS => by go_simp; rfl) ?_
            refine take_S 5 rfl (by kernel_rfl) (by kernel_rfl) hS0 (fun w' hS => by go_simp; rfl) ?_
            refine take_S 6 rfl (by kernel_rfl) (by kernel_rfl) hS0 (fun w' hS => by have B0 := (hS.cell (p := ⟨g, o + k * 2, none⟩) hgr).trans Y0.out; have B1 := (hS.cell (p := ⟨g, o + k * 2 + 1, none⟩) hgr).trans Y1.out; go_simp; rfl) ?_
            refine take_S 7 rfl (by kernel_rfl) (by kernel_rfl) hS0 (fun w' hS => by have B0 := (HRPr.out.below hS HRPr.out.lt).c0; have B1 := (HRPr.out.below hS HRPr.out.lt).c1; go_simp; rfl) (forced_S (by kernel_rfl) ?_)
            try simp only [Act.put, List.getElem_toArray, List.getElem_cons_succ, List.getElem_cons_zero, List.setIfInBounds_toArray, List.set_cons_zero, List.set_cons_succ]
            simp only [List.drop_succ_cons, List.drop_zero]
            clear hS0
            go_wp2
            have hS0 : Below wr.heap.size wr wr.drew.drew := (Below.refl _ _).drew.drew
            refine region_S (fun w' => Below wr.heap.size wr w') 18 (by kernel_rfl) (by kernel_rfl) ?_
            refine take_S 0 rfl (by kernel_rfl) (by kernel_rfl) hS0 (fun w' hS => by go_simp; rfl) ?_
            refine take_S 1 rfl (by kernel_rfl) (by kernel_rfl) hS0 (fun w' hS => by have A3 := (HBXr.out.below hS HBXr.out.lt).c3; go_simp; rfl) ?_
            refine take_S 2 rfl (by kernel_rfl) (by kernel_rfl) hS0 (fun w' hS => by go_simp; rfl) ?_
            refine take_S 3 rfl (by kernel_rfl) (by kernel_rfl) hS0 (fun w' hS => by go_simp; rfl) ?_
            refine take_S 4 rfl (by kernel_rfl) (by kernel_rfl) hS0 (fun w' hS => by have B0 := (hS.cell (p := ⟨g, o + k * 2, none⟩) hgr).trans Y0.out; have B1 := (hS.cell (p := ⟨g, o + k * 2 + 1, none⟩) hgr).trans Y1.out; go_simp; rfl) ?_
            refine take_S 5 rfl (by kernel_rfl) (by kernel_rfl) hS0 (fun w' hS => by have B0 := (HRPr.out.below hS HRPr.out.lt).c0; have B1 := (HRPr.out.below hS HRPr.out.lt).c1; go_simp; rfl) ?_
            refine carry_S 6 rfl (by kernel_rfl) (by decide) (by kernel_rfl) (fun K hK => ?_)
            go_simp
            refine (PLess_any (prOf ps[k]) (repOf r.ids).1 (ps[k].length : Int) (repOf r.ids).2 _).mono ?_
            rintro e w13 ⟨rfl, hb13⟩
            rw [HLF.out]
            have hS13 : Below wr.heap.size wr w13 := hS0.trans hb13
            refine hK _ _ hS13 ?_
            clear hK K
            try simp only [Act.put, List.getElem_toArray, List.getElem_cons_succ, List.getElem_cons_zero, List.setIfInBounds_toArray, List.set_cons_zero, List.set_cons_succ]
            refine take_S 7 rfl (by kernel_rfl) (by kernel_rfl) hS13 (fun w' hS => by go_simp; rfl) ?_
            refine take_S 8 rfl (by kernel_rfl) (by kernel_rfl) hS13 (fun w' hS => by go_simp; rfl) ?_
            refine take_S 9 rfl (by kernel_rfl) (by kernel_rfl) hS13 (fun w' hS => by have A3 := (HBXr.out.below hS HBXr.out.lt).c3; go_simp; rfl) ?_
            refine take_S 10 rfl (by kernel_rfl) (by kernel_rfl) hS13 (fun w' hS => by go_simp; rfl) ?_
            refine take_S 11 rfl (by kernel_rfl) (by kernel_rfl) hS13 (fun w' hS => by go_simp; rfl) ?_
            refine take_S 12 rfl (by kernel_rfl) (by kernel_rfl) hS13 (fun w' hS => by have B0 := (hS.cell (p := ⟨g, o + k * 2, none⟩) hgr).trans Y0.out; have B1 := (hS.cell (p := ⟨g, o + k * 2 + 1, none⟩) hgr).trans Y1.out; go_simp; rfl) ?_
            refine take_S 13 rfl (by kernel_rfl) (by kernel_rfl) hS13 (fun w' hS => by go_simp; rfl) ?_
            refine take_S 14 rfl (by kernel_rfl) (by kernel_rfl) hS13 (fun w' hS => by go_simp; rfl) ?_
            refine take_S 15 rfl (by kernel_rfl) (by kernel_rfl) hS13 (fun w' hS => by go_simp; rfl) ?_
            refine take_S 16 rfl (by kernel_rfl) (by kernel_rfl) hS13 (fun w' hS => by have Z0 := (hS.cell (p := ⟨gl, k, none⟩) hglr).trans ZL.out; go_simp; rfl) ?_
            refine carry_S 17 rfl (by kernel_rfl) (by decide) (by kernel_rfl) (fun K hK => ?_)
            go_simp
            refine (ID_any (bs ps[k]) _ hpz).mono ?_
            rintro e w14 ⟨rfl, hb14⟩
            have hS14 : Below wr.heap.size wr w14 := hS13.trans (hb14.mono hS13.size)
            rw [HBT.out, HBZ.out]
            refine hK _ _ hS14 (forced_S (by kernel_rfl) ?_)
            clear hK K
            try simp only [Act.put, List.getElem_toArray, List.getElem_cons_succ, List.getElem_cons_zero, List.setIfInBounds_toArray, List.set_cons_zero, List.set_cons_succ]
            simp only [List.drop_succ_cons, List.drop_zero]
            have HB14 := Lib.hid (hB.trans (hS14.mono hB.size))
            clear hS0 hS13 hS14 hb13 hb14
            go_wp2
            go_roundg (ps.length - (k + 1))
            case measure => omega
            case rel => exact ⟨k + 1, by go_num, by rw [HNT.out], hkl, rfl, HB14.out⟩
    · obtain rfl : k = ps.length := by omega
      have hth : thereB r.ids (repOf r.ids) ps.length = true := by rw [← HLN.out]; exact there_all r.ids
      rw [hth]
      clear hth
      have hnl : ¬ ((ps.length : Int) < (r.ids.length : Int)) := by rw [HLN.out]; omega
      by_cases hz0 : z < 0
      · go_wp2
        go_ret
        exact ⟨rfl, HB9.out⟩
      · by_cases hz1 : (ps.length : Int) ≤ z
        · go_wp2
          go_ret
          exact ⟨rfl, HB9.out⟩
        · obtain ⟨k, rfl⟩ : ∃ k : Nat, z = k := ⟨z.toNat, by omega⟩
          have hkl : k < ps.length := by omega
          obtain ⟨g, o, rfl, hg, hx⟩ := HRI12.out (by rw [HLN.out]; omega)
          obtain ⟨x0, x1⟩ := hx k (by rw [HLN.out]; exact hkl)
          rw [HEL.out k hkl] at x0 x1
          have Y0 : Hid (wr.cell? ⟨g, o + k * 2, none⟩ = some (.int .u32 ((prOf ps[k] : Nat) : Int))) := Lib.hid ((hB.cell (p := ⟨g, o + k * 2, none⟩) hg).trans x0)
          have Y1 : Hid (wr.cell? ⟨g, o + k * 2 + 1, none⟩ = some (.int .i64 (ps[k].length : Int))) := Lib.hid ((hB.cell (p := ⟨g, o + k * 2 + 1, none⟩) hg).trans x1)
          have hgr : g < wr.heap.size := Nat.lt_of_lt_of_le hg hB.size
          have b1 : (0 : Int) ≤ (k : Int) := by omega
          have b2 : (k : Int) < (ps.length : Int) := by omega
          have b3 : (k : Int) < (r.ids.length : Int) := by rw [HLN.out]; exact b2
          have hpm : p.size ≤ maxLen := by unfold maxLen; omega
          clear hx x0 x1
          go_wp2
          have hS0 : Below wr.heap.size wr wr.drew := (Below.refl _ _).drew
          refine region_S (fun w' => Below wr.heap.size wr w') 7 (by kernel_rfl) (by kernel_rfl) ?_
          refine take_S 0 rfl (by kernel_rfl) (by kernel_rfl) hS0 (fun w' hS => by go_simp; rfl) ?_
          refine take_S 2 rfl (by kernel_rfl) (by kernel_rfl) hS0 (fun w' hS => by go_simp; rfl) ?_
          refine take_S 3 rfl (by kernel_rfl) (by kernel_rfl) hS0 (fun w' hS => by have A3 := (HBXr.out.below hS HBXr.out.lt).c3; go_simp; rfl) ?_
          refine take_S 4 rfl (by kernel_rfl) (by kernel_rfl) hS0 (fun w' hS => by go_simp; rfl) ?_
          refine take_S 5 rfl (by kernel_rfl) (by kernel_rfl) hS0 (fun w' hS => by go_simp; rfl) ?_
          refine take_S 6 rfl (by kernel_rfl) (by kernel_rfl) hS0 (fun w' hS => by have B0 := (hS.cell (p := ⟨g, o + k * 2, none⟩) hgr).trans Y0.out; have B1 := (hS.cell (p := ⟨g, o + k * 2 + 1, none⟩) hgr).trans Y1.out; go_simp; rfl) ?_
          refine carry_S 1 rfl (by kernel_rfl) (by decide) (by kernel_rfl) (fun K hK => ?_)
          go_simp
          refine (ID_any p _ hpm).mono ?_
          rintro e w14 ⟨rfl, hb14⟩
          have hS14 : Below wr.heap.size wr w14 := hS0.trans hb14
          refine hK _ _ hS14 (forced_S (by kernel_rfl) ?_)
          clear hK K
          try simp only [Act.put, List.getElem_toArray, List.getElem_cons_succ, List.getElem_cons_zero, List.setIfInBounds_toArray, List.set_cons_zero, List.set_cons_succ]
          simp only [List.drop_succ_cons, List.drop_zero]
          have HB14 := Lib.hid (hB.trans (hS14.mono hB.size))
          have HBX14 := Lib.hid (HBXr.out.below hS14 HBXr.out.lt)
          clear hS0 hS14 hb14
          by_cases hid : idOf p.data.toList = idOf ps[k]
          · obtain ⟨t1, t2⟩ := idn_eqs hid
            simp only [idOf] at t1 t2
            rw [← HPSZ.out] at t2
            clear hid
            go_wp2
            go_ret
            exact ⟨rfl, HB12.out.trans (HB14.out.mono HB12.out.size)⟩
          · have hne := idn_ne hid
            have hJ := HSET.out k hkl hid
            have HJ := Lib.hid hJ
            simp only [idOf] at hne
            rw [← HPSZ.out] at hne
            have ho14 := own_belowI HO12.out HB14.out
            obtain ⟨gl, rfl, hgl0, hgl, _⟩ := HRL12.out (by omega)
            have fl := ho14.frozenAt k
            have cl14 : w14.cell? ⟨gl, k, none⟩ = some (.string (bs ps[k])) := by rw [ho14.cellAt k (by omega)]; simp [hkl]
            obtain ⟨os, qs⟩ := ho14.stored k (.string p)
            have hset : (ps.map VS).set k (.string p) = (ps.set k p.data.toList).map VS := by
              rw [List.map_set, show VS p.data.toList = .string p by show Value.string (bs p.data.toList) = _; rw [HBP.out]]
            rw [hset] at os
            have HOS := Lib.hid os
            clear hid hJ hset os ho14
            have hg2 : g < w2.heap.size := by
              obtain ⟨A5, c5, hv5, _, hc5⟩ := HRD2.out.form
              injection hv5 with e1 e2 e3
              obtain ⟨g', o', e4, hg', _⟩ := hc5 (by rw [HLN.out]; omega)
              rw [← e1] at e4
              injection e4 with e4
              injection e4 with e4 e5
              omega
            have hS15 : Below w3.heap.size w14 (w14.setCell ⟨gl, k, none⟩ (.string p)) := (Below.refl _ w14).setCell (p := ⟨gl, k, none⟩) hgl0 _
            have hb014 := HB12.out.trans (HB14.out.mono HB12.out.size)
            have HB15 := Lib.hid (hb014.trans (hS15.mono HB3.out.size))
            have HBX15 := Lib.hid (HBX14.out.below hS15 hlt2)
            have HV14 := HV12.out.below HB14.out
            obtain ⟨sl5, hsl5, hri5⟩ := HV14
            injection hsl5 with hsl5
            have hsl6 : (Value.slice (some ⟨g, o, none⟩) r.ids.length c) = sl5 := by
              have := congrArg (fun a => a[3]?) hsl5
              simpa using this
            rw [← hsl6] at hri5
            have HV15 : Hid (RcpV (w14.setCell ⟨gl, k, none⟩ (.string p)) (w14.setCell ⟨gl, k, none⟩ (.string p)).heap.size (.agg #[VT r.name, .int .i64 r.len, .int .u32 (r.print : Int), .slice (some ⟨g, o, none⟩) r.ids.length c]) r) := Lib.hid ⟨_, rfl, (hri5.setFar (by omega) _ _).more (by simp [World.setCell])⟩
            have HL15 := Lib.hid (Rd.own (n := ps.length) HOS.out)
            have H15 := Lib.hid (H.out.below HB15.out)
            have hzp2 : p.data.toList.length ≤ 100 := by rw [← HPSZ.out]; exact h3
            have JN2 := Lib.hid (RcJoin_any a _ (.slice (some ⟨gl, 0, none⟩) ps.length cl) r HBN.out (ps.set k p.data.toList) (by rw [List.length_set]; exact hpl) (fun q hq => by
              rcases List.mem_or_eq_of_mem_set hq with hq | hq
              · have := HPM.out q hq; omega
              · rw [hq]; omega) (w14.setCell ⟨gl, k, none⟩ (.string p)) HV15.out HL15.out H15.out.five)
            obtain ⟨c0, c1, c2, c3, _⟩ := HBX15.out
            clear hS15 hb014 hri5 hsl5 hsl6 qs
            rcases hne with t1 | ⟨t1, t2⟩
            · go_wp2_with fail
              refine JN2.out.mono ?_
              rintro e w16 ⟨x, rfl, hev, hb16⟩
              rw [HJ.out] at hev ⊢
              have HFT := Lib.hid (faulted1_any a x 9 (k : Int) 9 (k : Int) w16 (H15.out.s.below hb16) (evErrV hev (H15.out.s.below hb16)))
              rw [show VT ((([] : Bytes), (9 : Int), (k : Int))).1 = .string ⟨#[]⟩ from rfl]
              rw [show faultedB 9 (k : Int) 9 (k : Int) = true by unfold faultedB; simp] at HFT
              clear hev
              go_wp2_with fail
              refine HFT.out.mono ?_
              rintro e w17 ⟨rfl, hb17⟩
              go_wp2
              go_ret
              exact ⟨rfl, (HB15.out.trans (hb16.mono HB15.out.size)).trans (hb17.mono (Nat.le_trans HB15.out.size hb16.size))⟩
            · go_wp2_with fail
              refine JN2.out.mono ?_
              rintro e w16 ⟨x, rfl, hev, hb16⟩
              rw [HJ.out] at hev ⊢
              have HFT := Lib.hid (faulted1_any a x 9 (k : Int) 9 (k : Int) w16 (H15.out.s.below hb16) (evErrV hev (H15.out.s.below hb16)))
              rw [show VT ((([] : Bytes), (9 : Int), (k : Int))).1 = .string ⟨#[]⟩ from rfl]
              rw [show faultedB 9 (k : Int) 9 (k : Int) = true by unfold faultedB; simp] at HFT
              clear hev
              go_wp2_with fail
              refine HFT.out.mono ?_
              rintro e w17 ⟨rfl, hb17⟩
              go_wp2
              go_ret
              exact ⟨rfl, (HB15.out.trans (hb16.mono HB15.out.size)).trans (hb17.mono (Nat.le_trans HB15.out.size hb16.size))⟩
theorem RecipeBack_walk (a : Nat → Addr) (n s : ByteArray) (z : Int) (p : ByteArray) (hn : n.size ≤ maxLen) (hs : s.size ≤ maxLen) (_hz : (Lit.int .i64 z).wf = true) (hp : p.size ≤ maxLen) (w : World) (h : RbW a w) :
    Calls Tryz.prog 6 #[.string n, .string s, .int .i64 z, .string p] w fun e w' => e = .returned (.bool true) ∧ Below w.heap.size w w' := by
  by_cases hl : 30 < n.size ∨ 1500 < s.size ∨ 100 < p.size
  · exact RcBk_short a n s p z hl hn hs hp w h
  · cases hN : isName n.data.toList with
    | false => exact RcBk_bad a n s p z (by omega) (by omega) (by omega) hN w h
    | true => exact RcBk_main a n s p z (by omega) (by omega) (by omega) hN w h
end Go.Proofs.YtbokckjlgjnnjaaGreatDoor

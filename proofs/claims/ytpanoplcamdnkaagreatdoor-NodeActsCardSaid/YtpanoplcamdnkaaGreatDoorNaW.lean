/- Walk of the law NodeActs. Condition: the sentinels lie as named (Sents). -/
import Derived.Test.YtpanoplcamdnkaaGreatDoorDoA
import Derived.Test.YtpanoplcamdnkaaGreatDoorSnA
import Derived.Test.YtpanoplcamdnkaaGreatDoorNac1
namespace Go.Proofs.YtpanoplcamdnkaaGreatDoor
open Go.RowKit Go.Lib Go.Maps

theorem alGet_isSome_any {K V : Type} [DecidableEq K] (L : List (K × V)) (k : K) : (alGet L k).isSome = L.any fun p => decide (p.1 = k) := by
  induction L with
  | nil => rfl
  | cons y r ih =>
    rw [alGet_cons, List.any_cons, ← ih]
    by_cases h : y.1 = k <;> simp [h]
theorem RNode.findC {n : Nat} {P : PNode} {f : Foot} (hP : NodeW P) (nm : Bytes) (w : World) (h : RNode n P f w) :
    Calls Tryz.prog 52 #[.pointer (some ⟨n, 0, none⟩), .string (bs nm)] w fun e w' => ∃ k : Int, e = .returned (.int .i64 k) ∧ decide (k ≥ 0) = (alGet P.files nm).isSome ∧ Below w.heap.size w w' := by
  obtain ⟨vf, vb, E, G, ho, rfl, rfl⟩ := h.at
  refine (RNFind_raw n vf vb E G (by have := hP.lenE; omega) nm w ho).mono ?_
  rintro e w' ⟨rfl, rfl⟩
  refine ⟨_, rfl, ?_, Below.refl _ _⟩
  rw [ixP_any, alGet_isSome_any, plainR_eq, List.any_map]; rfl
theorem RNode.findBC {n : Nat} {P : PNode} {f : Foot} (hP : NodeW P) (x : Idn) (w : World) (h : RNode n P f w) :
    Calls Tryz.prog 53 #[.pointer (some ⟨n, 0, none⟩), idV x] w fun e w' => ∃ k : Int, e = .returned (.int .i64 k) ∧ decide (k ≥ 0) = (alGet P.bins x).isSome ∧ Below w.heap.size w w' := by
  obtain ⟨vf, vb, E, G, ho, rfl, rfl⟩ := h.at
  refine (RNFindB_raw n vf vb E G (by have := hP.lenG; omega) x w ho).mono ?_
  rintro e w' ⟨rfl, hb⟩
  refine ⟨_, rfl, ?_, hb⟩
  rw [ixP_any, alGet_isSome_any, plainR_eq, List.any_map]; rfl
theorem Node.copyC {n : Nat} {P : PNode} {f : Foot} (hP : NodeOk P) (w : World) (h : Node n P f w) :
    Calls Tryz.prog 51 #[.pointer (some ⟨n, 0, none⟩)] w fun e w' => ∃ n2 f2, e = .returned (.pointer (some ⟨n2, 0, none⟩)) ∧ Node n2 P f2 w' ∧ (∀ k, f2.S k → w.heap.size ≤ k) ∧ (∀ k, f2.R k → f.R k ∨ w.heap.size ≤ k) ∧ Below w.heap.size w w' := by
  obtain ⟨fm, bm, F, B, ho, rfl, rfl⟩ := h.at
  exact NdCopy_any n fm bm F B hP w ho
theorem bin_code {P : PNode} {x : Idn} {w w' : World} {e : Ending} (h : BinPost P x w e w') : ∃ p : Option Addr, e = .returned (.pointer p) ∧ p.isSome = (alGet P.bins x).isSome ∧ Below w.heap.size w w' := by
  unfold BinPost at h
  cases hg : alGet P.bins x with
  | none =>
    rw [hg] at h
    exact ⟨none, h.1, rfl, h.2⟩
  | some L =>
    rw [hg] at h
    obtain ⟨b2, mb2, h1, _, _, _, h2⟩ := h
    exact ⟨_, h1, rfl, h2⟩
set_option maxRecDepth 100000 in
theorem NodeActs_long (a : Nat → Addr) (v : Value) (l : List ActN) (hl : l.length ≤ maxLen) (hz : ∀ x ∈ l, x.kind.length ≤ maxLen ∧ x.nm.length ≤ maxLen ∧ x.s.length ≤ maxLen) (ot : Bytes) (ho : ot.length ≤ maxLen) (x : Idn) (hlong : longNs l 60 = 1 ∨ 30 < ot.length) (w : World) (hv : ActNRd w w.heap.size v l) (h : Sents a w) :
    Calls Tryz.prog 8 #[v, .string (bs ot), idV x] w fun e w' => e = .returned (.bool true) ∧ Below w.heap.size w w' := by
  have hb0 : Below w.heap.size w (w.alloc (.cells #[.int .u32 (x.1 : Int), .int .i64 x.2] 47)) := (Below.refl _ w).alloc (Nat.le_refl _) _
  have HB := Lib.hid (noded_any a (w.alloc (.cells #[.int .u32 (x.1 : Int), .int .i64 x.2] 47)) ((h.below hb0).someS [1, 2, 3, 4, 5, 6, 8, 9] (by decide)))
  have HLA := Lib.hid (fun w1 (hb : Below w.heap.size w w1) => LongActs_any v l hl hz 60 (by decide) _ w1 (hv.below hb))
  have HOT : Hid ((bs ot).size = ot.length) := Lib.hid (bs_size ot)
  have HB0 := Lib.hid hb0
  rcases longNs_cases l 60 with h0 | h1
  · have h30 : 30 < ot.length := hlong.resolve_left (by rw [h0]; decide)
    have h30i : ((bs ot).size : Int) > 30 := by rw [HOT.out]; omega
    have HLG := Lib.hid h0
    clear h hv hlong hb0
    go_enter Tryz.func8, Tryz.ntmps8
    go_wp2_with fail
    refine HB.out.mono ?_
    rintro e w1 ⟨rfl, hb1⟩
    have HB1 := Lib.hid (HB0.out.trans (hb1.mono HB0.out.size))
    clear hb1
    go_wp2_with fail
    refine (HLA.out w1 HB1.out).mono ?_
    rintro e w2 ⟨rfl, rfl⟩
    rw [HLG.out]
    go_wp2
    go_ret
    exact ⟨rfl, HB1.out⟩
  · have HLG := Lib.hid h1
    clear h hv hlong hb0
    go_enter Tryz.func8, Tryz.ntmps8
    go_wp2_with fail
    refine HB.out.mono ?_
    rintro e w1 ⟨rfl, hb1⟩
    have HB1 := Lib.hid (HB0.out.trans (hb1.mono HB0.out.size))
    clear hb1
    go_wp2_with fail
    refine (HLA.out w1 HB1.out).mono ?_
    rintro e w2 ⟨rfl, rfl⟩
    rw [HLG.out]
    go_wp2
    go_ret
    exact ⟨rfl, HB1.out⟩
set_option maxRecDepth 100000 in
set_option maxHeartbeats 16000000 in
theorem NodeActs_main (a : Nat → Addr) (v : Value) (l : List ActN) (hl : l.length ≤ maxLen) (hz : ∀ x ∈ l, x.kind.length ≤ maxLen ∧ x.nm.length ≤ maxLen ∧ x.s.length ≤ maxLen) (nm : Bytes) (hnm : nm.length ≤ 30) (x : Idn) (hix : IdOk x) (hlong : longNs l 60 = 0) (w : World) (hv : ActNRd w w.heap.size v l) (h : Sents a w) :
    Calls Tryz.prog 8 #[v, .string (bs nm), idV x] w fun e w' => e = .returned (.bool true) ∧ Below w.heap.size w w' := by
  obtain ⟨hl60, hx60⟩ := longNs_zero hlong
  have hb0 : Below w.heap.size w (w.alloc (.cells #[.int .u32 (x.1 : Int), .int .i64 x.2] 47)) := (Below.refl _ w).alloc (Nat.le_refl _) _
  have HB := Lib.hid (noded_any a (w.alloc (.cells #[.int .u32 (x.1 : Int), .int .i64 x.2] 47)) ((h.below hb0).someS [1, 2, 3, 4, 5, 6, 8, 9] (by decide)))
  have HLA := Lib.hid (fun w1 (hb : Below w.heap.size w w1) => LongActs_any v l hl hz 60 (by decide) _ w1 (hv.below hb))
  have HOT : Hid ((bs nm).size = nm.length) := Lib.hid (bs_size nm)
  have h30i : ¬ ((bs nm).size : Int) > 30 := by rw [HOT.out]; omega
  have HLG := Lib.hid hlong
  have HS : Hid (∀ w', Below w.heap.size w w' → Sents a w') := Lib.hid fun w' hb => h.below hb
  have HXL := Lib.hid hx60
  have HIX := Lib.hid hix
  have BX0 := Lib.hid (Box2.mk' w (.int .u32 (x.1 : Int)) (.int .i64 x.2) 47)
  have HB0 := Lib.hid hb0
  have hzb : (w.alloc (.cells #[.int .u32 (x.1 : Int), .int .i64 x.2] 47)).heap.size = w.heap.size + 1 := by simp
  obtain ⟨A, c, rfl, hlc, hx⟩ := hv
  have HX := Lib.hid hx
  clear h hlong hx hx60 hz hix hb0
  go_enter Tryz.func8, Tryz.ntmps8
  go_wp2_with fail
  generalize w.alloc (.cells #[.int .u32 (x.1 : Int), .int .i64 x.2] 47) = w1 at *
  have HZB := Lib.hid hzb
  clear hzb
  refine HB.out.mono ?_
  rintro e w2 ⟨rfl, hb2⟩
  have HB2 := Lib.hid (HB0.out.trans (hb2.mono HB0.out.size))
  have BX2 := Lib.hid (BX0.out.below hb2 (by have := HZB.out; omega))
  have hz2 : w.heap.size + 1 ≤ w2.heap.size := by have := hb2.size; have := HZB.out; omega
  have HB1x := Lib.hid hb2
  clear hb2
  go_wp2_with fail
  refine (HLA.out w2 HB2.out).mono ?_
  rintro e w2' ⟨rfl, rfl⟩
  rw [HLG.out]
  clear HLA
  go_wp2_with fail
  refine (NdNew_any w2).mono ?_
  rintro e w3 ⟨n, f0, rfl, hn, hge, hb3⟩
  have hge' : f0.ge (w.heap.size + 1) := fun q hq => Nat.le_trans hz2 (hge q hq)
  obtain ⟨g0, h4⟩ := ND.new (base := w.heap.size + 1) hn hge' (w0 := w1) (by rw [← HZB.out]; exact HB1x.out.trans (hb3.mono HB1x.out.size)) (Nat.le_trans hz2 hb3.size)
  have H4 := Lib.hid h4
  clear hn hge hge' hb3 h4
  go_wp2
  generalize hm : w3.heap.size = m at *
  clear hm
  generalize w3.alloc (.cells #[.slice none 0 0, .slice none 0 0] 96) = w4 at *
  go_loopg [10] l.length (fun gh v10 wr => ∃ (k : Nat) (P : PNode) (f g : Foot), v10 = .int .i64 k ∧ k ≤ l.length ∧ gh = l.length - k ∧ Hid (NodeOk P) ∧ Hid (ND (w.heap.size + 1) n m P P f g w1 wr))
  case atStart => exact ⟨0, ⟨[], []⟩, f0, g0, rfl, Nat.zero_le _, rfl, Lib.hid NodeOk.nil, H4⟩
  case round =>
    obtain ⟨k, P, f, g, rfl, hk, hgm, OK, H⟩ := hrel
    by_cases hkl : k < l.length
    · obtain ⟨ga, o, rfl, hg, hcells⟩ := HX.out (by omega)
      obtain ⟨c0, c1, c2⟩ := hcells k hkl
      have b1 : (0 : Int) ≤ (k : Int) := by omega
      have b2 : (k : Int) < (l.length : Int) := by omega
      have hxl := HXL.out l[k] (List.getElem_mem hkl)
      have HBW := Lib.hid (HB0.out.trans (H.out.bel.mono (by omega)))
      have d0 := (HBW.out.cell (p := ⟨ga, o + k * 3, none⟩) hg).trans c0
      have d1 := (HBW.out.cell (p := ⟨ga, o + k * 3 + 1, none⟩) hg).trans c1
      have d2 := (HBW.out.cell (p := ⟨ga, o + k * 3 + 2, none⟩) hg).trans c2
      have HDO := Lib.hid (Do_any a OK.out l[k] ⟨hxl.2.1, by have := hxl.2.2; omega⟩ wr H.out (fun w' hb => HS.out w' (HB0.out.trans (hb.mono (by omega)))))
      have OK' := Lib.hid (OK.out.doN l[k])
      generalize doN l[k] P = P' at *
      generalize l[k].kind = KD at *
      generalize l[k].nm = NM at *
      generalize l[k].s = SX at *
      unfold DoPost at HDO
      clear hcells c0 c1 c2 hxl
      go_wp2_with fail
      refine HDO.out.mono ?_
      rintro e w5 ⟨rfl, f', g', h5⟩
      have H5 := Lib.hid h5
      clear h5 HDO
      go_wp2
      go_roundg (l.length - (k + 1))
      case measure => omega
      case rel => exact ⟨k + 1, P', f', g', by go_num, hkl, rfl, OK', H5⟩
    · obtain rfl : k = l.length := by omega
      have HBW := Lib.hid (HB0.out.trans (H.out.bel.mono (by omega)))
      have HRC := Lib.hid (Node.recipeC a OK.out nm (by unfold StrOk maxLen; omega) wr H.out.node ((HS.out wr HBW.out).someS [4] (by decide)))
      clear hk hgm
      cases hga : alGet P.files nm with
      | none =>
        have HFA : Hid ((alGet P.files nm).isSome = false) := Lib.hid (by rw [hga]; rfl)
        rw [show recN nm P = (5, rcpZero) by unfold recN; rw [hga]] at HRC
        clear hga
        go_wp2_with fail
        refine HRC.out.mono ?_
        rintro e w5 ⟨v5, r5, rfl, hev, ⟨sl5, rfl, hr5⟩, hb5⟩
        obtain ⟨ty5, pv5, rfl⟩ := hev.some (by decide)
        obtain ⟨A5, c5, hsl5⟩ : ∃ A c, sl5 = .slice A rcpZero.ids.length c := by obtain ⟨A, c, h, _⟩ := hr5; exact ⟨A, c, h⟩
        subst hsl5
        have H5 := Lib.hid (H.out.below hb5)
        have hb6 : Below w5.heap.size w5 (w5.alloc (.cells #[VT rcpZero.name, .int .i64 rcpZero.len, .int .u32 (rcpZero.print : Int), .slice A5 rcpZero.ids.length c5] 65)) := (Below.refl _ _).alloc (Nat.le_refl _) _
        have H6 := Lib.hid (H5.out.below hb6)
        clear hev hr5 hb5 hb6 HRC
        have BX := Lib.hid (BX0.out.below H6.out.bel (by omega))
        have HS6 : Hid (∀ w', Below (w.heap.size + 1) w1 w' → Sents a w') := Lib.hid (fun w' hb => HS.out w' (HB0.out.trans (hb.mono (by omega))))
        clear HS
        have HS := HS6
        go_wp2_with fail
        generalize w5.alloc (.cells #[VT rcpZero.name, .int .i64 rcpZero.len, .int .u32 (rcpZero.print : Int), .slice A5 rcpZero.ids.length c5] 65) = w6 at *
        cases hgb : alGet P.bins x with
        | none =>
          have HBA : Hid ((alGet P.bins x).isSome = false) := Lib.hid (by rw [hgb]; rfl)
          clear hgb
          go_wp2
          have hS0 : Below w6.heap.size w6 w6.drew := (Below.refl _ _).drew
          refine region_S (fun w' => Below w6.heap.size w6 w') 31 (by kernel_rfl) (by kernel_rfl) ?_
          refine take_S 0 rfl (by kernel_rfl) (by kernel_rfl) hS0 (fun w' hS => by go_simp; rfl) ?_
          refine take_S 1 rfl (by kernel_rfl) (by kernel_rfl) hS0 (fun w' hS => by go_simp; rfl) ?_
          refine carry_S 2 rfl (by kernel_rfl) (by decide) (by kernel_rfl) (fun K hK => ?_)
          go_simp
          refine (SameNode_any a OK.out.w _ (H6.out.below hS0).node (H6.out.below hS0).mod ((HS.out _ (H6.out.below hS0).bel).someS [4] (by decide))).mono ?_
          rintro e w7 ⟨rfl, hbw7⟩
          have hSa : Below w6.heap.size w6 w7 := hS0.trans (hbw7.mono hS0.size)
          refine hK _ _ hSa ?_
          clear hK K
          try simp only [Act.put, List.getElem_toArray, List.getElem_cons_succ, List.getElem_cons_zero, List.setIfInBounds_toArray, List.set_cons_zero, List.set_cons_succ]
          refine take_S 3 (v := .bool true) rfl (by kernel_rfl) (by kernel_rfl) hSa (fun w' hS => by go_simp) ?_
          refine take_S 4 rfl (by kernel_rfl) (by kernel_rfl) hSa (fun w' hS => by go_simp; rfl) ?_
          refine take_S 5 rfl (by kernel_rfl) (by kernel_rfl) hSa (fun w' hS => by go_simp; rfl) ?_
          refine take_S 7 rfl (by kernel_rfl) (by kernel_rfl) hSa (fun w' hS => by go_simp; rfl) ?_
          refine carry_S 6 rfl (by kernel_rfl) (by decide) (by kernel_rfl) (fun K hK => ?_)
          go_simp
          refine (Node.copyC OK.out _ (H6.out.below hSa).node).mono ?_
          rintro e w8 ⟨n2, f2, rfl, hn2, _, _, hbw8⟩
          have hSb : Below w6.heap.size w6 w8 := hSa.trans (hbw8.mono hSa.size)
          refine hK _ _ hSb ?_
          clear hK K
          try simp only [Act.put, List.getElem_toArray, List.getElem_cons_succ, List.getElem_cons_zero, List.setIfInBounds_toArray, List.set_cons_zero, List.set_cons_succ]
          refine carry_S 8 rfl (by kernel_rfl) (by decide) (by kernel_rfl) (fun K hK => ?_)
          go_simp
          refine (SameNode_any a OK.out.w _ hn2 (H6.out.below hSb).mod ((HS.out _ (H6.out.below hSb).bel).someS [4] (by decide))).mono ?_
          rintro e w9 ⟨rfl, hbw9⟩
          have hSc : Below w6.heap.size w6 w9 := hSb.trans (hbw9.mono hSb.size)
          refine hK _ _ hSc ?_
          clear hK K
          try simp only [Act.put, List.getElem_toArray, List.getElem_cons_succ, List.getElem_cons_zero, List.setIfInBounds_toArray, List.set_cons_zero, List.set_cons_succ]
          refine take_S 9 (v := .bool true) rfl (by kernel_rfl) (by kernel_rfl) hSc (fun w' hS => by go_simp) ?_
          refine take_S 10 (v := .bool true) rfl (by kernel_rfl) (by kernel_rfl) hSc (fun w' hS => by go_simp) ?_
          refine take_S 11 rfl (by kernel_rfl) (by kernel_rfl) hSc (fun w' hS => by go_simp; rfl) ?_
          refine take_S 12 rfl (by kernel_rfl) (by kernel_rfl) hSc (fun w' hS => by go_simp; rfl) ?_
          refine take_S 13 (v := .bool false) rfl (by kernel_rfl) (by kernel_rfl) hSc (fun w' hS => by go_simp) ?_
          refine take_S 14 rfl (by kernel_rfl) (by kernel_rfl) hSc (fun w' hS => by go_simp; rfl) ?_
          refine take_S 15 rfl (by kernel_rfl) (by kernel_rfl) hSc (fun w' hS => by go_simp; rfl) ?_
          refine carry_S 16 rfl (by kernel_rfl) (by decide) (by kernel_rfl) (fun K hK => ?_)
          go_simp
          refine (RNode.findC OK.out.w nm _ (H6.out.below hSc).mod).mono ?_
          rintro e w10 ⟨kf, rfl, hkf, hbw10⟩
          have hSd : Below w6.heap.size w6 w10 := hSc.trans (hbw10.mono hSc.size)
          refine hK _ _ hSd ?_
          clear hK K
          try simp only [Act.put, List.getElem_toArray, List.getElem_cons_succ, List.getElem_cons_zero, List.setIfInBounds_toArray, List.set_cons_zero, List.set_cons_succ]
          refine take_S 17 (v := .bool false) rfl (by kernel_rfl) (by kernel_rfl) hSd (fun w' hS => by have q1 := hkf.trans HFA.out; have q2 := of_decide_eq_false q1; go_simp) ?_
          refine take_S 18 (v := .bool true) rfl (by kernel_rfl) (by kernel_rfl) hSd (fun w' hS => by go_simp) ?_
          refine take_S 19 (v := .bool true) rfl (by kernel_rfl) (by kernel_rfl) hSd (fun w' hS => by go_simp) ?_
          refine take_S 20 rfl (by kernel_rfl) (by kernel_rfl) hSd (fun w' hS => by go_simp; rfl) ?_
          refine take_S 21 rfl (by kernel_rfl) (by kernel_rfl) hSd (fun w' hS => by go_simp; rfl) ?_
          refine take_S 22 rfl (by kernel_rfl) (by kernel_rfl) hSd (fun w' hS => by obtain ⟨B0, B1, _, _⟩ := BX.out.below hS BX.out.lt; go_simp; rfl) ?_
          refine take_S 25 rfl (by kernel_rfl) (by kernel_rfl) hSd (fun w' hS => by go_simp; rfl) ?_
          refine take_S 26 rfl (by kernel_rfl) (by kernel_rfl) hSd (fun w' hS => by obtain ⟨B0, B1, _, _⟩ := BX.out.below hS BX.out.lt; go_simp; rfl) ?_
          refine carry_S 23 rfl (by kernel_rfl) (by decide) (by kernel_rfl) (fun K hK => ?_)
          go_simp
          refine ((Node.binW OK.out.w x HIX.out _ (H6.out.below hSd).node).mono fun e w' h => bin_code h).mono ?_
          rintro e w11 ⟨pb, rfl, hpb, hbw11⟩
          obtain rfl : pb = none := Option.isNone_iff_eq_none.1 (by rw [← Option.not_isSome, hpb, HBA.out]; rfl)
          have hSe : Below w6.heap.size w6 w11 := hSd.trans (hbw11.mono hSd.size)
          refine hK _ _ hSe ?_
          clear hK K
          try simp only [Act.put, List.getElem_toArray, List.getElem_cons_succ, List.getElem_cons_zero, List.setIfInBounds_toArray, List.set_cons_zero, List.set_cons_succ]
          refine take_S 24 (v := .bool false) rfl (by kernel_rfl) (by kernel_rfl) hSe (fun w' hS => by go_simp) ?_
          refine carry_S 27 rfl (by kernel_rfl) (by decide) (by kernel_rfl) (fun K hK => ?_)
          go_simp
          refine (RNode.findBC OK.out.w x _ (H6.out.below hSe).mod).mono ?_
          rintro e w12 ⟨kb, rfl, hkb, hbw12⟩
          have hSf : Below w6.heap.size w6 w12 := hSe.trans (hbw12.mono hSe.size)
          refine hK _ _ hSf ?_
          clear hK K
          try simp only [Act.put, List.getElem_toArray, List.getElem_cons_succ, List.getElem_cons_zero, List.setIfInBounds_toArray, List.set_cons_zero, List.set_cons_succ]
          refine take_S 28 (v := .bool false) rfl (by kernel_rfl) (by kernel_rfl) hSf (fun w' hS => by have q1 := hkb.trans HBA.out; have q2 := of_decide_eq_false q1; go_simp) ?_
          refine take_S 29 (v := .bool true) rfl (by kernel_rfl) (by kernel_rfl) hSf (fun w' hS => by go_simp) ?_
          refine take_S 30 (v := .bool true) rfl (by kernel_rfl) (by kernel_rfl) hSf (fun w' hS => by go_simp) (forced_S (by kernel_rfl) ?_)
          try simp only [Act.put, List.getElem_toArray, List.getElem_cons_succ, List.getElem_cons_zero, List.setIfInBounds_toArray, List.set_cons_zero, List.set_cons_succ]
          simp only [List.drop_succ_cons, List.drop_zero]
          have HF := Lib.hid (HB0.out.trans ((H6.out.bel.trans (hSf.mono H6.out.sz)).mono (by omega)))
          clear hS0 hSa hSb hSc hSd hSe hSf
          go_wp2
          go_ret
          exact ⟨rfl, HF.out⟩
        | some Lx =>
          have HBA : Hid ((alGet P.bins x).isSome = true) := Lib.hid (by rw [hgb]; rfl)
          clear hgb
          go_wp2
          have hS0 : Below w6.heap.size w6 w6.drew := (Below.refl _ _).drew
          refine region_S (fun w' => Below w6.heap.size w6 w') 31 (by kernel_rfl) (by kernel_rfl) ?_
          refine take_S 0 rfl (by kernel_rfl) (by kernel_rfl) hS0 (fun w' hS => by go_simp; rfl) ?_
          refine take_S 1 rfl (by kernel_rfl) (by kernel_rfl) hS0 (fun w' hS => by go_simp; rfl) ?_
          refine carry_S 2 rfl (by kernel_rfl) (by decide) (by kernel_rfl) (fun K hK => ?_)
          go_simp
          refine (SameNode_any a OK.out.w _ (H6.out.below hS0).node (H6.out.below hS0).mod ((HS.out _ (H6.out.below hS0).bel).someS [4] (by decide))).mono ?_
          rintro e w7 ⟨rfl, hbw7⟩
          have hSa : Below w6.heap.size w6 w7 := hS0.trans (hbw7.mono hS0.size)
          refine hK _ _ hSa ?_
          clear hK K
          try simp only [Act.put, List.getElem_toArray, List.getElem_cons_succ, List.getElem_cons_zero, List.setIfInBounds_toArray, List.set_cons_zero, List.set_cons_succ]
          refine take_S 3 (v := .bool true) rfl (by kernel_rfl) (by kernel_rfl) hSa (fun w' hS => by go_simp) ?_
          refine take_S 4 rfl (by kernel_rfl) (by kernel_rfl) hSa (fun w' hS => by go_simp; rfl) ?_
          refine take_S 5 rfl (by kernel_rfl) (by kernel_rfl) hSa (fun w' hS => by go_simp; rfl) ?_
          refine take_S 7 rfl (by kernel_rfl) (by kernel_rfl) hSa (fun w' hS => by go_simp; rfl) ?_
          refine carry_S 6 rfl (by kernel_rfl) (by decide) (by kernel_rfl) (fun K hK => ?_)
          go_simp
          refine (Node.copyC OK.out _ (H6.out.below hSa).node).mono ?_
          rintro e w8 ⟨n2, f2, rfl, hn2, _, _, hbw8⟩
          have hSb : Below w6.heap.size w6 w8 := hSa.trans (hbw8.mono hSa.size)
          refine hK _ _ hSb ?_
          clear hK K
          try simp only [Act.put, List.getElem_toArray, List.getElem_cons_succ, List.getElem_cons_zero, List.setIfInBounds_toArray, List.set_cons_zero, List.set_cons_succ]
          refine carry_S 8 rfl (by kernel_rfl) (by decide) (by kernel_rfl) (fun K hK => ?_)
          go_simp
          refine (SameNode_any a OK.out.w _ hn2 (H6.out.below hSb).mod ((HS.out _ (H6.out.below hSb).bel).someS [4] (by decide))).mono ?_
          rintro e w9 ⟨rfl, hbw9⟩
          have hSc : Below w6.heap.size w6 w9 := hSb.trans (hbw9.mono hSb.size)
          refine hK _ _ hSc ?_
          clear hK K
          try simp only [Act.put, List.getElem_toArray, List.getElem_cons_succ, List.getElem_cons_zero, List.setIfInBounds_toArray, List.set_cons_zero, List.set_cons_succ]
          refine take_S 9 (v := .bool true) rfl (by kernel_rfl) (by kernel_rfl) hSc (fun w' hS => by go_simp) ?_
          refine take_S 10 (v := .bool true) rfl (by kernel_rfl) (by kernel_rfl) hSc (fun w' hS => by go_simp) ?_
          refine take_S 11 rfl (by kernel_rfl) (by kernel_rfl) hSc (fun w' hS => by go_simp; rfl) ?_
          refine take_S 12 rfl (by kernel_rfl) (by kernel_rfl) hSc (fun w' hS => by go_simp; rfl) ?_
          refine take_S 13 (v := .bool false) rfl (by kernel_rfl) (by kernel_rfl) hSc (fun w' hS => by go_simp) ?_
          refine take_S 14 rfl (by kernel_rfl) (by kernel_rfl) hSc (fun w' hS => by go_simp; rfl) ?_
          refine take_S 15 rfl (by kernel_rfl) (by kernel_rfl) hSc (fun w' hS => by go_simp; rfl) ?_
          refine carry_S 16 rfl (by kernel_rfl) (by decide) (by kernel_rfl) (fun K hK => ?_)
          go_simp
          refine (RNode.findC OK.out.w nm _ (H6.out.below hSc).mod).mono ?_
          rintro e w10 ⟨kf, rfl, hkf, hbw10⟩
          have hSd : Below w6.heap.size w6 w10 := hSc.trans (hbw10.mono hSc.size)
          refine hK _ _ hSd ?_
          clear hK K
          try simp only [Act.put, List.getElem_toArray, List.getElem_cons_succ, List.getElem_cons_zero, List.setIfInBounds_toArray, List.set_cons_zero, List.set_cons_succ]
          refine take_S 17 (v := .bool false) rfl (by kernel_rfl) (by kernel_rfl) hSd (fun w' hS => by have q1 := hkf.trans HFA.out; have q2 := of_decide_eq_false q1; go_simp) ?_
          refine take_S 18 (v := .bool true) rfl (by kernel_rfl) (by kernel_rfl) hSd (fun w' hS => by go_simp) ?_
          refine take_S 19 (v := .bool true) rfl (by kernel_rfl) (by kernel_rfl) hSd (fun w' hS => by go_simp) ?_
          refine take_S 20 rfl (by kernel_rfl) (by kernel_rfl) hSd (fun w' hS => by go_simp; rfl) ?_
          refine take_S 21 rfl (by kernel_rfl) (by kernel_rfl) hSd (fun w' hS => by go_simp; rfl) ?_
          refine take_S 22 rfl (by kernel_rfl) (by kernel_rfl) hSd (fun w' hS => by obtain ⟨B0, B1, _, _⟩ := BX.out.below hS BX.out.lt; go_simp; rfl) ?_
          refine take_S 25 rfl (by kernel_rfl) (by kernel_rfl) hSd (fun w' hS => by go_simp; rfl) ?_
          refine take_S 26 rfl (by kernel_rfl) (by kernel_rfl) hSd (fun w' hS => by obtain ⟨B0, B1, _, _⟩ := BX.out.below hS BX.out.lt; go_simp; rfl) ?_
          refine carry_S 23 rfl (by kernel_rfl) (by decide) (by kernel_rfl) (fun K hK => ?_)
          go_simp
          refine ((Node.binW OK.out.w x HIX.out _ (H6.out.below hSd).node).mono fun e w' h => bin_code h).mono ?_
          rintro e w11 ⟨pb, rfl, hpb, hbw11⟩
          obtain ⟨pa, rfl⟩ := Option.isSome_iff_exists.1 (hpb.trans HBA.out)
          have hSe : Below w6.heap.size w6 w11 := hSd.trans (hbw11.mono hSd.size)
          refine hK _ _ hSe ?_
          clear hK K
          try simp only [Act.put, List.getElem_toArray, List.getElem_cons_succ, List.getElem_cons_zero, List.setIfInBounds_toArray, List.set_cons_zero, List.set_cons_succ]
          refine take_S 24 (v := .bool true) rfl (by kernel_rfl) (by kernel_rfl) hSe (fun w' hS => by go_simp) ?_
          refine carry_S 27 rfl (by kernel_rfl) (by decide) (by kernel_rfl) (fun K hK => ?_)
          go_simp
          refine (RNode.findBC OK.out.w x _ (H6.out.below hSe).mod).mono ?_
          rintro e w12 ⟨kb, rfl, hkb, hbw12⟩
          have hSf : Below w6.heap.size w6 w12 := hSe.trans (hbw12.mono hSe.size)
          refine hK _ _ hSf ?_
          clear hK K
          try simp only [Act.put, List.getElem_toArray, List.getElem_cons_succ, List.getElem_cons_zero, List.setIfInBounds_toArray, List.set_cons_zero, List.set_cons_succ]
          refine take_S 28 (v := .bool true) rfl (by kernel_rfl) (by kernel_rfl) hSf (fun w' hS => by have q1 := hkb.trans HBA.out; have q2 := of_decide_eq_true q1; go_simp) ?_
          refine take_S 29 (v := .bool true) rfl (by kernel_rfl) (by kernel_rfl) hSf (fun w' hS => by go_simp) ?_
          refine take_S 30 (v := .bool true) rfl (by kernel_rfl) (by kernel_rfl) hSf (fun w' hS => by go_simp) (forced_S (by kernel_rfl) ?_)
          try simp only [Act.put, List.getElem_toArray, List.getElem_cons_succ, List.getElem_cons_zero, List.setIfInBounds_toArray, List.set_cons_zero, List.set_cons_succ]
          simp only [List.drop_succ_cons, List.drop_zero]
          have HF := Lib.hid (HB0.out.trans ((H6.out.bel.trans (hSf.mono H6.out.sz)).mono (by omega)))
          clear hS0 hSa hSb hSc hSd hSe hSf
          go_wp2
          go_ret
          exact ⟨rfl, HF.out⟩
      | some r0 =>
        have HFA : Hid ((alGet P.files nm).isSome = true) := Lib.hid (by rw [hga]; rfl)
        rw [show recN nm P = (0, r0) by unfold recN; rw [hga]] at HRC
        clear hga
        go_wp2_with fail
        refine HRC.out.mono ?_
        rintro e w5 ⟨v5, r5, rfl, hev, ⟨sl5, rfl, hr5⟩, hb5⟩
        obtain ⟨rfl, _⟩ := hev.nil rfl
        obtain ⟨A5, c5, hsl5⟩ : ∃ A c, sl5 = .slice A r0.ids.length c := by obtain ⟨A, c, h, _⟩ := hr5; exact ⟨A, c, h⟩
        subst hsl5
        have H5 := Lib.hid (H.out.below hb5)
        have hb6 : Below w5.heap.size w5 (w5.alloc (.cells #[VT r0.name, .int .i64 r0.len, .int .u32 (r0.print : Int), .slice A5 r0.ids.length c5] 65)) := (Below.refl _ _).alloc (Nat.le_refl _) _
        have H6 := Lib.hid (H5.out.below hb6)
        clear hev hr5 hb5 hb6 HRC
        have BX := Lib.hid (BX0.out.below H6.out.bel (by omega))
        have HS6 : Hid (∀ w', Below (w.heap.size + 1) w1 w' → Sents a w') := Lib.hid (fun w' hb => HS.out w' (HB0.out.trans (hb.mono (by omega))))
        clear HS
        have HS := HS6
        go_wp2_with fail
        generalize w5.alloc (.cells #[VT r0.name, .int .i64 r0.len, .int .u32 (r0.print : Int), .slice A5 r0.ids.length c5] 65) = w6 at *
        cases hgb : alGet P.bins x with
        | none =>
          have HBA : Hid ((alGet P.bins x).isSome = false) := Lib.hid (by rw [hgb]; rfl)
          clear hgb
          go_wp2
          have hS0 : Below w6.heap.size w6 w6.drew := (Below.refl _ _).drew
          refine region_S (fun w' => Below w6.heap.size w6 w') 31 (by kernel_rfl) (by kernel_rfl) ?_
          refine take_S 0 rfl (by kernel_rfl) (by kernel_rfl) hS0 (fun w' hS => by go_simp; rfl) ?_
          refine take_S 1 rfl (by kernel_rfl) (by kernel_rfl) hS0 (fun w' hS => by go_simp; rfl) ?_
          refine carry_S 2 rfl (by kernel_rfl) (by decide) (by kernel_rfl) (fun K hK => ?_)
          go_simp
          refine (SameNode_any a OK.out.w _ (H6.out.below hS0).node (H6.out.below hS0).mod ((HS.out _ (H6.out.below hS0).bel).someS [4] (by decide))).mono ?_
          rintro e w7 ⟨rfl, hbw7⟩
          have hSa : Below w6.heap.size w6 w7 := hS0.trans (hbw7.mono hS0.size)
          refine hK _ _ hSa ?_
          clear hK K
          try simp only [Act.put, List.getElem_toArray, List.getElem_cons_succ, List.getElem_cons_zero, List.setIfInBounds_toArray, List.set_cons_zero, List.set_cons_succ]
          refine take_S 3 (v := .bool true) rfl (by kernel_rfl) (by kernel_rfl) hSa (fun w' hS => by go_simp) ?_
          refine take_S 4 rfl (by kernel_rfl) (by kernel_rfl) hSa (fun w' hS => by go_simp; rfl) ?_
          refine take_S 5 rfl (by kernel_rfl) (by kernel_rfl) hSa (fun w' hS => by go_simp; rfl) ?_
          refine take_S 7 rfl (by kernel_rfl) (by kernel_rfl) hSa (fun w' hS => by go_simp; rfl) ?_
          refine carry_S 6 rfl (by kernel_rfl) (by decide) (by kernel_rfl) (fun K hK => ?_)
          go_simp
          refine (Node.copyC OK.out _ (H6.out.below hSa).node).mono ?_
          rintro e w8 ⟨n2, f2, rfl, hn2, _, _, hbw8⟩
          have hSb : Below w6.heap.size w6 w8 := hSa.trans (hbw8.mono hSa.size)
          refine hK _ _ hSb ?_
          clear hK K
          try simp only [Act.put, List.getElem_toArray, List.getElem_cons_succ, List.getElem_cons_zero, List.setIfInBounds_toArray, List.set_cons_zero, List.set_cons_succ]
          refine carry_S 8 rfl (by kernel_rfl) (by decide) (by kernel_rfl) (fun K hK => ?_)
          go_simp
          refine (SameNode_any a OK.out.w _ hn2 (H6.out.below hSb).mod ((HS.out _ (H6.out.below hSb).bel).someS [4] (by decide))).mono ?_
          rintro e w9 ⟨rfl, hbw9⟩
          have hSc : Below w6.heap.size w6 w9 := hSb.trans (hbw9.mono hSb.size)
          refine hK _ _ hSc ?_
          clear hK K
          try simp only [Act.put, List.getElem_toArray, List.getElem_cons_succ, List.getElem_cons_zero, List.setIfInBounds_toArray, List.set_cons_zero, List.set_cons_succ]
          refine take_S 9 (v := .bool true) rfl (by kernel_rfl) (by kernel_rfl) hSc (fun w' hS => by go_simp) ?_
          refine take_S 10 (v := .bool true) rfl (by kernel_rfl) (by kernel_rfl) hSc (fun w' hS => by go_simp) ?_
          refine take_S 11 rfl (by kernel_rfl) (by kernel_rfl) hSc (fun w' hS => by go_simp; rfl) ?_
          refine take_S 12 rfl (by kernel_rfl) (by kernel_rfl) hSc (fun w' hS => by go_simp; rfl) ?_
          refine take_S 13 (v := .bool true) rfl (by kernel_rfl) (by kernel_rfl) hSc (fun w' hS => by go_simp) ?_
          refine take_S 14 rfl (by kernel_rfl) (by kernel_rfl) hSc (fun w' hS => by go_simp; rfl) ?_
          refine take_S 15 rfl (by kernel_rfl) (by kernel_rfl) hSc (fun w' hS => by go_simp; rfl) ?_
          refine carry_S 16 rfl (by kernel_rfl) (by decide) (by kernel_rfl) (fun K hK => ?_)
          go_simp
          refine (RNode.findC OK.out.w nm _ (H6.out.below hSc).mod).mono ?_
          rintro e w10 ⟨kf, rfl, hkf, hbw10⟩
          have hSd : Below w6.heap.size w6 w10 := hSc.trans (hbw10.mono hSc.size)
          refine hK _ _ hSd ?_
          clear hK K
          try simp only [Act.put, List.getElem_toArray, List.getElem_cons_succ, List.getElem_cons_zero, List.setIfInBounds_toArray, List.set_cons_zero, List.set_cons_succ]
          refine take_S 17 (v := .bool true) rfl (by kernel_rfl) (by kernel_rfl) hSd (fun w' hS => by have q1 := hkf.trans HFA.out; have q2 := of_decide_eq_true q1; go_simp) ?_
          refine take_S 18 (v := .bool true) rfl (by kernel_rfl) (by kernel_rfl) hSd (fun w' hS => by go_simp) ?_
          refine take_S 19 (v := .bool true) rfl (by kernel_rfl) (by kernel_rfl) hSd (fun w' hS => by go_simp) ?_
          refine take_S 20 rfl (by kernel_rfl) (by kernel_rfl) hSd (fun w' hS => by go_simp; rfl) ?_
          refine take_S 21 rfl (by kernel_rfl) (by kernel_rfl) hSd (fun w' hS => by go_simp; rfl) ?_
          refine take_S 22 rfl (by kernel_rfl) (by kernel_rfl) hSd (fun w' hS => by obtain ⟨B0, B1, _, _⟩ := BX.out.below hS BX.out.lt; go_simp; rfl) ?_
          refine take_S 25 rfl (by kernel_rfl) (by kernel_rfl) hSd (fun w' hS => by go_simp; rfl) ?_
          refine take_S 26 rfl (by kernel_rfl) (by kernel_rfl) hSd (fun w' hS => by obtain ⟨B0, B1, _, _⟩ := BX.out.below hS BX.out.lt; go_simp; rfl) ?_
          refine carry_S 23 rfl (by kernel_rfl) (by decide) (by kernel_rfl) (fun K hK => ?_)
          go_simp
          refine ((Node.binW OK.out.w x HIX.out _ (H6.out.below hSd).node).mono fun e w' h => bin_code h).mono ?_
          rintro e w11 ⟨pb, rfl, hpb, hbw11⟩
          obtain rfl : pb = none := Option.isNone_iff_eq_none.1 (by rw [← Option.not_isSome, hpb, HBA.out]; rfl)
          have hSe : Below w6.heap.size w6 w11 := hSd.trans (hbw11.mono hSd.size)
          refine hK _ _ hSe ?_
          clear hK K
          try simp only [Act.put, List.getElem_toArray, List.getElem_cons_succ, List.getElem_cons_zero, List.setIfInBounds_toArray, List.set_cons_zero, List.set_cons_succ]
          refine take_S 24 (v := .bool false) rfl (by kernel_rfl) (by kernel_rfl) hSe (fun w' hS => by go_simp) ?_
          refine carry_S 27 rfl (by kernel_rfl) (by decide) (by kernel_rfl) (fun K hK => ?_)
          go_simp
          refine (RNode.findBC OK.out.w x _ (H6.out.below hSe).mod).mono ?_
          rintro e w12 ⟨kb, rfl, hkb, hbw12⟩
          have hSf : Below w6.heap.size w6 w12 := hSe.trans (hbw12.mono hSe.size)
          refine hK _ _ hSf ?_
          clear hK K
          try simp only [Act.put, List.getElem_toArray, List.getElem_cons_succ, List.getElem_cons_zero, List.setIfInBounds_toArray, List.set_cons_zero, List.set_cons_succ]
          refine take_S 28 (v := .bool false) rfl (by kernel_rfl) (by kernel_rfl) hSf (fun w' hS => by have q1 := hkb.trans HBA.out; have q2 := of_decide_eq_false q1; go_simp) ?_
          refine take_S 29 (v := .bool true) rfl (by kernel_rfl) (by kernel_rfl) hSf (fun w' hS => by go_simp) ?_
          refine take_S 30 (v := .bool true) rfl (by kernel_rfl) (by kernel_rfl) hSf (fun w' hS => by go_simp) (forced_S (by kernel_rfl) ?_)
          try simp only [Act.put, List.getElem_toArray, List.getElem_cons_succ, List.getElem_cons_zero, List.setIfInBounds_toArray, List.set_cons_zero, List.set_cons_succ]
          simp only [List.drop_succ_cons, List.drop_zero]
          have HF := Lib.hid (HB0.out.trans ((H6.out.bel.trans (hSf.mono H6.out.sz)).mono (by omega)))
          clear hS0 hSa hSb hSc hSd hSe hSf
          go_wp2
          go_ret
          exact ⟨rfl, HF.out⟩
        | some Lx =>
          have HBA : Hid ((alGet P.bins x).isSome = true) := Lib.hid (by rw [hgb]; rfl)
          clear hgb
          go_wp2
          have hS0 : Below w6.heap.size w6 w6.drew := (Below.refl _ _).drew
          refine region_S (fun w' => Below w6.heap.size w6 w') 31 (by kernel_rfl) (by kernel_rfl) ?_
          refine take_S 0 rfl (by kernel_rfl) (by kernel_rfl) hS0 (fun w' hS => by go_simp; rfl) ?_
          refine take_S 1 rfl (by kernel_rfl) (by kernel_rfl) hS0 (fun w' hS => by go_simp; rfl) ?_
          refine carry_S 2 rfl (by kernel_rfl) (by decide) (by kernel_rfl) (fun K hK => ?_)
          go_simp
          refine (SameNode_any a OK.out.w _ (H6.out.below hS0).node (H6.out.below hS0).mod ((HS.out _ (H6.out.below hS0).bel).someS [4] (by decide))).mono ?_
          rintro e w7 ⟨rfl, hbw7⟩
          have hSa : Below w6.heap.size w6 w7 := hS0.trans (hbw7.mono hS0.size)
          refine hK _ _ hSa ?_
          clear hK K
          try simp only [Act.put, List.getElem_toArray, List.getElem_cons_succ, List.getElem_cons_zero, List.setIfInBounds_toArray, List.set_cons_zero, List.set_cons_succ]
          refine take_S 3 (v := .bool true) rfl (by kernel_rfl) (by kernel_rfl) hSa (fun w' hS => by go_simp) ?_
          refine take_S 4 rfl (by kernel_rfl) (by kernel_rfl) hSa (fun w' hS => by go_simp; rfl) ?_
          refine take_S 5 rfl (by kernel_rfl) (by kernel_rfl) hSa (fun w' hS => by go_simp; rfl) ?_
          refine take_S 7 rfl (by kernel_rfl) (by kernel_rfl) hSa (fun w' hS => by go_simp; rfl) ?_
          refine carry_S 6 rfl (by kernel_rfl) (by decide) (by kernel_rfl) (fun K hK => ?_)
          go_simp
          refine (Node.copyC OK.out _ (H6.out.below hSa).node).mono ?_
          rintro e w8 ⟨n2, f2, rfl, hn2, _, _, hbw8⟩
          have hSb : Below w6.heap.size w6 w8 := hSa.trans (hbw8.mono hSa.size)
          refine hK _ _ hSb ?_
          clear hK K
          try simp only [Act.put, List.getElem_toArray, List.getElem_cons_succ, List.getElem_cons_zero, List.setIfInBounds_toArray, List.set_cons_zero, List.set_cons_succ]
          refine carry_S 8 rfl (by kernel_rfl) (by decide) (by kernel_rfl) (fun K hK => ?_)
          go_simp
          refine (SameNode_any a OK.out.w _ hn2 (H6.out.below hSb).mod ((HS.out _ (H6.out.below hSb).bel).someS [4] (by decide))).mono ?_
          rintro e w9 ⟨rfl, hbw9⟩
          have hSc : Below w6.heap.size w6 w9 := hSb.trans (hbw9.mono hSb.size)
          refine hK _ _ hSc ?_
          clear hK K
          try simp only [Act.put, List.getElem_toArray, List.getElem_cons_succ, List.getElem_cons_zero, List.setIfInBounds_toArray, List.set_cons_zero, List.set_cons_succ]
          refine take_S 9 (v := .bool true) rfl (by kernel_rfl) (by kernel_rfl) hSc (fun w' hS => by go_simp) ?_
          refine take_S 10 (v := .bool true) rfl (by kernel_rfl) (by kernel_rfl) hSc (fun w' hS => by go_simp) ?_
          refine take_S 11 rfl (by kernel_rfl) (by kernel_rfl) hSc (fun w' hS => by go_simp; rfl) ?_
          refine take_S 12 rfl (by kernel_rfl) (by kernel_rfl) hSc (fun w' hS => by go_simp; rfl) ?_
          refine take_S 13 (v := .bool true) rfl (by kernel_rfl) (by kernel_rfl) hSc (fun w' hS => by go_simp) ?_
          refine take_S 14 rfl (by kernel_rfl) (by kernel_rfl) hSc (fun w' hS => by go_simp; rfl) ?_
          refine take_S 15 rfl (by kernel_rfl) (by kernel_rfl) hSc (fun w' hS => by go_simp; rfl) ?_
          refine carry_S 16 rfl (by kernel_rfl) (by decide) (by kernel_rfl) (fun K hK => ?_)
          go_simp
          refine (RNode.findC OK.out.w nm _ (H6.out.below hSc).mod).mono ?_
          rintro e w10 ⟨kf, rfl, hkf, hbw10⟩
          have hSd : Below w6.heap.size w6 w10 := hSc.trans (hbw10.mono hSc.size)
          refine hK _ _ hSd ?_
          clear hK K
          try simp only [Act.put, List.getElem_toArray, List.getElem_cons_succ, List.getElem_cons_zero, List.setIfInBounds_toArray, List.set_cons_zero, List.set_cons_succ]
          refine take_S 17 (v := .bool true) rfl (by kernel_rfl) (by kernel_rfl) hSd (fun w' hS => by have q1 := hkf.trans HFA.out; have q2 := of_decide_eq_true q1; go_simp) ?_
          refine take_S 18 (v := .bool true) rfl (by kernel_rfl) (by kernel_rfl) hSd (fun w' hS => by go_simp) ?_
          refine take_S 19 (v := .bool true) rfl (by kernel_rfl) (by kernel_rfl) hSd (fun w' hS => by go_simp) ?_
          refine take_S 20 rfl (by kernel_rfl) (by kernel_rfl) hSd (fun w' hS => by go_simp; rfl) ?_
          refine take_S 21 rfl (by kernel_rfl) (by kernel_rfl) hSd (fun w' hS => by go_simp; rfl) ?_
          refine take_S 22 rfl (by kernel_rfl) (by kernel_rfl) hSd (fun w' hS => by obtain ⟨B0, B1, _, _⟩ := BX.out.below hS BX.out.lt; go_simp; rfl) ?_
          refine take_S 25 rfl (by kernel_rfl) (by kernel_rfl) hSd (fun w' hS => by go_simp; rfl) ?_
          refine take_S 26 rfl (by kernel_rfl) (by kernel_rfl) hSd (fun w' hS => by obtain ⟨B0, B1, _, _⟩ := BX.out.below hS BX.out.lt; go_simp; rfl) ?_
          refine carry_S 23 rfl (by kernel_rfl) (by decide) (by kernel_rfl) (fun K hK => ?_)
          go_simp
          refine ((Node.binW OK.out.w x HIX.out _ (H6.out.below hSd).node).mono fun e w' h => bin_code h).mono ?_
          rintro e w11 ⟨pb, rfl, hpb, hbw11⟩
          obtain ⟨pa, rfl⟩ := Option.isSome_iff_exists.1 (hpb.trans HBA.out)
          have hSe : Below w6.heap.size w6 w11 := hSd.trans (hbw11.mono hSd.size)
          refine hK _ _ hSe ?_
          clear hK K
          try simp only [Act.put, List.getElem_toArray, List.getElem_cons_succ, List.getElem_cons_zero, List.setIfInBounds_toArray, List.set_cons_zero, List.set_cons_succ]
          refine take_S 24 (v := .bool true) rfl (by kernel_rfl) (by kernel_rfl) hSe (fun w' hS => by go_simp) ?_
          refine carry_S 27 rfl (by kernel_rfl) (by decide) (by kernel_rfl) (fun K hK => ?_)
          go_simp
          refine (RNode.findBC OK.out.w x _ (H6.out.below hSe).mod).mono ?_
          rintro e w12 ⟨kb, rfl, hkb, hbw12⟩
          have hSf : Below w6.heap.size w6 w12 := hSe.trans (hbw12.mono hSe.size)
          refine hK _ _ hSf ?_
          clear hK K
          try simp only [Act.put, List.getElem_toArray, List.getElem_cons_succ, List.getElem_cons_zero, List.setIfInBounds_toArray, List.set_cons_zero, List.set_cons_succ]
          refine take_S 28 (v := .bool true) rfl (by kernel_rfl) (by kernel_rfl) hSf (fun w' hS => by have q1 := hkb.trans HBA.out; have q2 := of_decide_eq_true q1; go_simp) ?_
          refine take_S 29 (v := .bool true) rfl (by kernel_rfl) (by kernel_rfl) hSf (fun w' hS => by go_simp) ?_
          refine take_S 30 (v := .bool true) rfl (by kernel_rfl) (by kernel_rfl) hSf (fun w' hS => by go_simp) (forced_S (by kernel_rfl) ?_)
          try simp only [Act.put, List.getElem_toArray, List.getElem_cons_succ, List.getElem_cons_zero, List.setIfInBounds_toArray, List.set_cons_zero, List.set_cons_succ]
          simp only [List.drop_succ_cons, List.drop_zero]
          have HF := Lib.hid (HB0.out.trans ((H6.out.bel.trans (hSf.mono H6.out.sz)).mono (by omega)))
          clear hS0 hSa hSb hSc hSd hSe hSf
          go_wp2
          go_ret
          exact ⟨rfl, HF.out⟩
theorem NodeActs_walk (a : Nat → Addr) (v : Value) (l : List ActN) (hl : l.length ≤ maxLen) (hz : ∀ x ∈ l, x.kind.length ≤ maxLen ∧ x.nm.length ≤ maxLen ∧ x.s.length ≤ maxLen) (o : ByteArray) (ho : o.size ≤ maxLen) (x : Idn) (hix : IdOk x) (w : World) (hv : ActNRd w w.heap.size v l) (h : Sents a w) :
    Calls Tryz.prog 8 #[v, .string o, idV x] w fun e w' => e = .returned (.bool true) ∧ Below w.heap.size w w' := by
  have hs := size_toList o
  by_cases hot : o.data.toList.length ≤ 30
  · rcases longNs_cases l 60 with h0 | h1
    · have := NodeActs_main a v l hl hz o.data.toList hot x hix h0 w hv h
      rwa [bs_of] at this
    · have := NodeActs_long a v l hl hz o.data.toList (by omega) x (.inl h1) w hv h
      rwa [bs_of] at this
  · have := NodeActs_long a v l hl hz o.data.toList (by omega) x (.inr (by omega)) w hv h
    rwa [bs_of] at this
end Go.Proofs.YtpanoplcamdnkaaGreatDoor

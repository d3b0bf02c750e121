/- Walk of the law NodeKeeps. Condition: the sentinels that are read lie as named (SomeS). -/
import Derived.Test.YtpanoplcamdnkaaGreatDoorNdR
import Derived.Test.YtpanoplcamdnkaaGreatDoorPlainK
namespace Go.Proofs.YtpanoplcamdnkaaGreatDoor
open Go.RowKit Go.Lib

abbrev keepKs : List Nat := [1, 2, 3, 4, 5, 6, 8, 9, 10]
theorem bs_listK (l : Bytes) : (bs l).toList = l := by rw [ByteArray.toList_eq, bs_toList]
def dropZ (nm : Bytes) (Z : List (Bytes × Bytes)) : List (Bytes × Bytes) := Z.filter fun z => !decide (z.1 = nm)
theorem dropZ_yes {Z : List (Bytes × Bytes)} {j : Nat} {nm : Bytes} (hj : j < Z.length) (h : Z[j].1 ≠ nm) : dropZ nm (Z.take (j + 1)) = dropZ nm (Z.take j) ++ [Z[j]] := by
  unfold dropZ
  rw [List.take_succ_eq_append_getElem hj, List.filter_append, List.filter_cons, if_pos (by simp [h])]; rfl
theorem dropZ_no {Z : List (Bytes × Bytes)} {j : Nat} {nm : Bytes} (hj : j < Z.length) (h : Z[j].1 = nm) : dropZ nm (Z.take (j + 1)) = dropZ nm (Z.take j) := by
  unfold dropZ
  rw [List.take_succ_eq_append_getElem hj, List.filter_append, List.filter_cons, if_neg (by simp [h])]; simp
theorem dropZ_len (nm : Bytes) (Z : List (Bytes × Bytes)) : (dropZ nm Z).length ≤ Z.length := List.length_filter_le _ _
theorem dropZ_same (nm : Bytes) (Z : List (Bytes × Bytes)) (h : (dropZ nm Z).length = Z.length) : dropZ nm Z = Z := List.filter_eq_self.2 (List.length_filter_eq_length_iff.1 h)
theorem dropZ_mem {nm : Bytes} {Z : List (Bytes × Bytes)} {z : Bytes × Bytes} (h : z ∈ dropZ nm Z) : z ∈ Z := (List.mem_filter.1 h).1
/-- how long a name and a text may be -/
def ZOk (Z : List (Bytes × Bytes)) : Prop := ∀ z ∈ Z, z.1.length ≤ 30 ∧ z.2.length ≤ 4001
theorem nilE (w : World) : (binOp BinOp.eql 31 .nilIface .nilIface).run Tryz.prog w = .ok (.bool true) w := by kernel_rfl
theorem someE (t : TypeId) (v : Value) (w : World) : (binOp BinOp.eql 31 (.iface t v) .nilIface).run Tryz.prog w = .ok (.bool false) w := by kernel_rfl
theorem ap_new {w : World} {v v' u : Value} {base n size : Nat} {e : TypeId} {xs : List Value} (h : ∀ g, v.ownBlock = some g → u.ownBlock ≠ some g) (ha : v'.ownBlock = v.ownBlock ∨ v'.ownBlock = some w.heap.size) (ho : w.ownsRow base e size u n xs) : ∀ g, v'.ownBlock = some g → u.ownBlock ≠ some g := fun g e1 e2 => by
  rcases ha with ha | ha
  · exact h g (ha ▸ e1) e2
  · rw [ha] at e1
    injection e1 with e1
    subst e1
    have := own_ltN ho e2
    omega
theorem hx3_gb {b : Nat} {x y z : Value} {w w' : World} {v : Value} (h : Box3 b x y z w) (hg : w.grownBy w' v.ownBlock) (hne : ¬ v.ownBlock = some b) : Box3 b x y z w' :=
  have hn : some b ≠ v.ownBlock := fun e => hne e.symm
  ⟨(hg.cell_far ⟨b, 0, none⟩ h.lt hn).trans h.c0, (hg.cell_far ⟨b, 1, none⟩ h.lt hn).trans h.c1, (hg.cell_far ⟨b, 2, none⟩ h.lt hn).trans h.c2⟩
theorem hx3_frs {b n : Nat} {f : Foot} {P : PNode} {x y z : Value} {w w' : World} (h : Box3 b x y z w) (ht : NodeTo n f P w w') (hne : ¬ f.S b) : Box3 b x y z w' := by
  obtain ⟨_, _, hF, _⟩ := ht
  exact ⟨(hF.cell (p := ⟨b, 0, none⟩) h.lt hne).trans h.c0, (hF.cell (p := ⟨b, 1, none⟩) h.lt hne).trans h.c1, (hF.cell (p := ⟨b, 2, none⟩) h.lt hne).trans h.c2⟩
set_option maxRecDepth 100000 in
theorem NodeKeeps_long (a : Nat → Addr) (v : Value) (l : List ActN) (hl : l.length ≤ maxLen) (hz : ∀ x ∈ l, x.kind.length ≤ maxLen ∧ x.nm.length ≤ maxLen ∧ x.s.length ≤ maxLen) (ot : Bytes) (ho : ot.length ≤ maxLen) (hlong : longNs l 60 = 1 ∨ 30 < ot.length) (w : World) (hv : ActNRd w w.heap.size v l) (h : SomeS keepKs a w) :
    Calls Tryz.prog 3 #[v, .string (bs ot)] w fun e w' => e = .returned (.bool true) ∧ Below w.heap.size w w' := by
  have HB := Lib.hid (noded_any a w (h.sub (js := [1, 2, 3, 4, 5, 6, 8, 9]) (by decide)))
  have HLA := Lib.hid (fun w1 (hb : Below w.heap.size w w1) => LongActs_any v l hl hz 60 (by decide) _ w1 (hv.below hb))
  have HOT : Hid ((bs ot).size = ot.length) := Lib.hid (bs_size ot)
  rcases longNs_cases l 60 with h0 | h1
  · have h30 : 30 < ot.length := hlong.resolve_left (by rw [h0]; decide)
    have h30i : ((bs ot).size : Int) > 30 := by rw [HOT.out]; omega
    have HLG := Lib.hid h0
    clear h hv hlong
    go_enter Tryz.func3, Tryz.ntmps3
    go_wp2_with fail
    refine HB.out.mono ?_
    rintro e w1 ⟨rfl, hb1⟩
    go_wp2_with fail
    refine (HLA.out w1 hb1).mono ?_
    rintro e w2 ⟨rfl, rfl⟩
    rw [HLG.out]
    have HB1 := Lib.hid hb1
    clear hb1
    go_wp2
    go_ret
    exact ⟨rfl, HB1.out⟩
  · have HLG := Lib.hid h1
    clear h hv hlong
    go_enter Tryz.func3, Tryz.ntmps3
    go_wp2_with fail
    refine HB.out.mono ?_
    rintro e w1 ⟨rfl, hb1⟩
    go_wp2_with fail
    refine (HLA.out w1 hb1).mono ?_
    rintro e w2 ⟨rfl, rfl⟩
    rw [HLG.out]
    have HB1 := Lib.hid hb1
    clear hb1
    go_wp2
    go_ret
    exact ⟨rfl, HB1.out⟩
set_option maxRecDepth 100000 in
set_option maxHeartbeats 16000000 in
theorem NodeKeeps_main (a : Nat → Addr) (v : Value) (l : List ActN) (hl : l.length ≤ maxLen) (hz : ∀ x ∈ l, x.kind.length ≤ maxLen ∧ x.nm.length ≤ maxLen ∧ x.s.length ≤ maxLen) (ot : Bytes) (hot : ot.length ≤ 30) (hlong : longNs l 60 = 0) (w : World) (hv : ActNRd w w.heap.size v l) (h : SomeS keepKs a w) :
    Calls Tryz.prog 3 #[v, .string (bs ot)] w fun e w' => e = .returned (.bool true) ∧ Below w.heap.size w w' := by
  obtain ⟨hl60, hx60⟩ := longNs_zero hlong
  obtain ⟨i0, hi, hz0, hz1, hz2⟩ := info_parts info_stringG
  have HB := Lib.hid (noded_any a w (h.sub (js := [1, 2, 3, 4, 5, 6, 8, 9]) (by decide)))
  have HLA := Lib.hid (fun w1 (hb : Below w.heap.size w w1) => LongActs_any v l hl hz 60 (by decide) _ w1 (hv.below hb))
  have HOT : Hid ((bs ot).size = ot.length) := Lib.hid (bs_size ot)
  have h30i : ¬ ((bs ot).size : Int) > 30 := by rw [HOT.out]; omega
  have HLG := Lib.hid hlong
  have HS := Lib.hid h
  have HXL := Lib.hid hx60
  obtain ⟨A, c, rfl, hlc, hx⟩ := hv
  have HX := Lib.hid hx
  clear h hlong hx hx60 hz
  go_enter Tryz.func3, Tryz.ntmps3
  go_wp2_with fail
  refine HB.out.mono ?_
  rintro e w1 ⟨rfl, hb1⟩
  go_wp2_with fail
  refine (HLA.out w1 hb1).mono ?_
  rintro e w1' ⟨rfl, rfl⟩
  rw [HLG.out]
  have HB1 := Lib.hid hb1
  clear hb1 HLA
  go_wp2_with fail
  refine (NdNew_any w1).mono ?_
  rintro e w2 ⟨n, f0, rfl, hn, hge, hb2⟩
  have H2 : Hid (KM w.heap.size n w2.heap.size ⟨[], []⟩ f0 (.slice none 0 0) 0 [] (.slice none 0 0) 0 [] w w2) := Lib.hid
    ⟨NIn.new (base := w.heap.size) hn (fun q hq => Nat.le_trans HB1.out.size (hge q hq)) (HB1.out.trans (hb2.mono HB1.out.size)) (Nat.le_trans HB1.out.size hb2.size), World.ownsRow_nil _ _ _ _, World.ownsRow_nil _ _ _ _, fun g e => by (cases e), fun g e => by (cases e), fun g e => by (cases e), Nat.le_trans HB1.out.size hb2.size, Nat.le_refl _⟩
  clear hn hge hb2 HB1
  go_wp2
  go_loopg [7, 8, 9] l.length (fun gh v7 v8 v9 wr => ∃ (k : Nat) (P : PNode) (Z : List (Bytes × Bytes)) (b7 : Nat) (f : Foot), v9 = .int .i64 k ∧ k ≤ l.length ∧ gh = l.length - k ∧ Hid (NodeOk P) ∧ Hid (KeepSt P Z) ∧ Hid (ZOk Z) ∧ Z.length ≤ k ∧ Hid (KM w.heap.size n b7 P f v7 Z.length (Z.map (·.1)) v8 Z.length (Z.map (·.2)) w wr))
  case atStart => exact ⟨0, ⟨[], []⟩, [], w2.heap.size, f0, rfl, Nat.zero_le _, rfl, Lib.hid NodeOk.nil, Lib.hid KeepSt.nil, Lib.hid (fun z hz => absurd hz List.not_mem_nil), Nat.le_refl _, H2⟩
  case round =>
    obtain ⟨k, P, Z, b7, f, rfl, hk, hgm, OK, KS, ZK, hzk0, H⟩ := hrel
    obtain ⟨wo, hwo⟩ : ∃ x, x = wr := ⟨_, rfl⟩
    subst hwo
    obtain ⟨A7, c7, hv7⟩ := own_formI H.out.r7
    subst hv7
    obtain ⟨A8, c8, hv8⟩ := own_formI H.out.r8
    subst hv8
    by_cases hkl : k < l.length
    · obtain ⟨g, o, rfl, hg, hcells⟩ := HX.out (by omega)
      obtain ⟨c0, c1, c2⟩ := hcells k hkl
      have b1 : (0 : Int) ≤ (k : Int) := by omega
      have b2 : (k : Int) < (l.length : Int) := by omega
      obtain ⟨hx20, hx30, hx600⟩ := HXL.out l[k] (List.getElem_mem hkl)
      generalize l[k].kind = KD at *
      generalize l[k].nm = NM at *
      generalize l[k].s = SX at *
      have d0 := (H.out.nin.bel.cell (p := ⟨g, o + k * 3, none⟩) hg).trans c0
      have d1 := (H.out.nin.bel.cell (p := ⟨g, o + k * 3 + 1, none⟩) hg).trans c1
      have d2 := (H.out.nin.bel.cell (p := ⟨g, o + k * 3 + 2, none⟩) hg).trans c2
      have hb4 : Below wo.heap.size wo (wo.alloc (.cells #[.string (bs KD), .string (bs NM), .string (bs SX)] 29)) := (Below.refl _ _).alloc (Nat.le_refl _) _
      have H4 := Lib.hid (H.out.below hb4)
      have HX4 := Lib.hid (Box3.mk' wo (.string (bs KD)) (.string (bs NM)) (.string (bs SX)) 29)
      have HNS : Hid (¬ f.S wo.heap.size) := Lib.hid (fun hs => by have := H.out.nin.node.lt _ (.inl hs); omega)
      have HNX7 : Hid (¬ (.slice A7 Z.length c7 : Value).ownBlock = some wo.heap.size) := Lib.hid (fun e => by have := own_ltN H.out.r7 e; omega)
      obtain ⟨x0, _, _⟩ := HX4.out
      clear hcells c0 c1 c2 hb4
      by_cases k1 : KD = [112, 117, 116]
      · have k1i : ((bs KD).toList == [112, 117, 116]) = true := by rw [k1, bs_listK]; rfl
        clear k1
        have HPUT := Lib.hid (Node.putC a OK.out NM SX (by unfold StrOk maxLen; omega) (wo.alloc (.cells #[.string (bs KD), .string (bs NM), .string (bs SX)] 29)) H4.out.nin.node ((HS.out.below H4.out.nin.bel).sub (js := [1, 3, 5, 6, 9]) (by decide)))
        have HOKP := OK.out.put NM SX
        have hks := fun h => KS.out.put OK.out (nm := NM) (s := SX) h
        have her := fun h => (putN_err (nm := NM) (s := SX) (P := P) h).1
        generalize putN NM SX P = PN at *
        obtain ⟨P', fr, cd⟩ := PN
        simp only at HPUT HOKP hks her
        have OK' := Lib.hid HOKP
        have HKS := Lib.hid hks
        have HER := Lib.hid her
        clear HOKP hks her
        obtain ⟨x0, x1, x2⟩ := HX4.out
        go_wp2_with fail
        refine HPUT.out.mono ?_
        rintro e w5 ⟨r5, rfl, hev5, ht5⟩
        obtain ⟨f5, h5⟩ := H4.out.to ht5
        have H5 := Lib.hid h5
        have HX5 := Lib.hid (hx3_frs HX4.out ht5 HNS.out)
        clear ht5 h5 x0 x1 x2 HPUT
        by_cases hc : cd = 0
        · subst hc
          obtain ⟨rfl, _⟩ := hev5.nil rfl
          have KS' := Lib.hid (HKS.out rfl)
          have H6 := Lib.hid (H5.out.below ((Below.refl w5.heap.size w5).alloc (Nat.le_refl _) (.cells #[.string (bs NM)] 9)))
          have HX6 := Lib.hid (HX5.out.below ((Below.refl w5.heap.size w5).alloc (Nat.le_refl _) (.cells #[.string (bs NM)] 9)) HX5.out.lt)
          have HNX : Hid (¬ (.slice A7 Z.length c7 : Value).ownBlock = some wo.heap.size) := HNX7
          obtain ⟨y0, y1, y2⟩ := HX5.out
          have ZK' : Hid (ZOk (Z ++ [(NM, SX)])) := Lib.hid (fun z hz => by
            rcases List.mem_append.1 hz with h | h
            · exact ZK.out z h
            · rw [List.mem_singleton.1 h]; exact ⟨hx30, by show SX.length ≤ 4001; omega⟩)
          clear hev5 HKS HER
          go_wp2_with (first | (at_builtin; refine wpList_append_own_at _ rfl (.tmp 65) (.tmp 68) 27 rfl b7 9 i0 (.string ByteArray.empty) 1 16 Tryz.underlying27 hi hz0 hz1 hz2 rfl (by decide) _ _ _ rfl H6.out.r7 ⟨w5.heap.size, 0, none⟩ 1 1 [.string (bs NM)] rfl rfl (cell_oneG _ _ _) (by simp [Value.oneCell']) (by unfold maxLen; omega) (by omega) (by have := H6.out.hz; exact this) ?_; intro v7' w7 ho7 hg7 _ ha7; obtain ⟨A7', c7', rfl⟩ := own_formI ho7; have H7 := Lib.hid (H6.out.app7 ho7 hg7 ha7); have HX7 := Lib.hid (hx3_gb HX6.out hg7 (fun e => HNX.out e)); obtain ⟨z0, z1, z2⟩ := HX7.out; have HX8 := Lib.hid (HX7.out.below ((Below.refl w7.heap.size w7).alloc (Nat.le_refl _) (.cells #[.string (bs SX)] 9)) HX7.out.lt); have H8 := Lib.hid (H7.out.below ((Below.refl w7.heap.size w7).alloc (Nat.le_refl _) (.cells #[.string (bs SX)] 9))); clear ho7 hg7 ha7) | (at_builtin; refine wpList_append_own_at _ rfl (.tmp 70) (.tmp 73) 27 rfl b7 9 i0 (.string ByteArray.empty) 1 16 Tryz.underlying27 hi hz0 hz1 hz2 rfl (by decide) _ _ _ rfl H8.out.r8 ⟨w7.heap.size, 0, none⟩ 1 1 [.string (bs SX)] rfl rfl (cell_oneG _ _ _) (by simp [Value.oneCell']) (by unfold maxLen; omega) (by omega) (by have := H8.out.hz; exact this) ?_; intro v8' w9 ho9 hg9 _ ha9; obtain ⟨A8', c8', rfl⟩ := own_formI ho9; have H9 := Lib.hid (H8.out.app8 ho9 hg9 ha9); clear ho9 hg9 ha9))
          have hzl : (Z ++ [(NM, SX)]).length = Z.length + 1 := by rw [List.length_append]; rfl
          have H10 : Hid (KM w.heap.size n b7 P' f5 (.slice A7' (Z ++ [(NM, SX)]).length c7') (Z ++ [(NM, SX)]).length ((Z ++ [(NM, SX)]).map (·.1)) (.slice A8' (Z ++ [(NM, SX)]).length c8') (Z ++ [(NM, SX)]).length ((Z ++ [(NM, SX)]).map (·.2)) w w9) := Lib.hid (by rw [List.map_append, List.map_append, hzl]; exact H9.out)
          rw [← hzl]
          generalize hZ' : Z ++ [(NM, SX)] = Z' at *
          have hzl' : Z'.length ≤ k + 1 := by omega
          clear hzl y0 y1 y2 hZ'
          go_wp2
          go_loopg [17] Z'.length (fun gh v17 wr => ∃ i : Nat, v17 = .int .i64 i ∧ i ≤ Z'.length ∧ gh = Z'.length - i ∧ Hid (Below w9.heap.size w9 wr))
          case atStart => exact ⟨0, rfl, Nat.zero_le _, rfl, Lib.hid (Below.refl _ _)⟩
          case round =>
            obtain ⟨i, rfl, hiz, hgi, HBi⟩ := hrel
            have HKi := Lib.hid (H10.out.below HBi.out)
            by_cases hil : i < Z'.length
            · obtain ⟨hc7, hl7, g7, rfl, _, hg7, hcell7⟩ := HKi.out.at7 (by omega)
              obtain ⟨hc8, hl8, g8, rfl, _, hg8, hcell8⟩ := HKi.out.at8 (by omega)
              have e7 := hcell7 i (by omega)
              have e8 := hcell8 i (by omega)
              rw [List.getElem_map] at e7 e8
              have hzk := ZK'.out Z'[i] (List.getElem_mem hil)
              have hgt := KS'.out.get Z'[i] (List.getElem_mem hil)
              have E8 : Hid (∀ w', Below wr.heap.size wr w' → w'.cell? ⟨g8, i, none⟩ = some (.string (bs Z'[i].2))) := Lib.hid (fun w' hb => (hb.cell (p := ⟨g8, i, none⟩) hg8).trans e8)
              have b3 : (0 : Int) ≤ (i : Int) := by omega
              have b4 : (i : Int) < (Z'.length : Int) := by omega
              have V2 := bne_self_eq_false (bs Z'[i].2).toList
              have V3 := beq_self_eq_true (bs Z'[i].2).toList
              have HGC := Lib.hid (Node.getC a OK'.out Z'[i].1 (by unfold StrOk maxLen; omega) wr HKi.out.nin.node ((HS.out.below HKi.out.nin.bel).sub (js := [1, 2, 3, 4, 6, 8]) (by decide)))
              rw [hgt] at HGC
              unfold GetPost at HGC
              generalize Z'[i].1 = zn at *
              generalize Z'[i].2 = zt at *
              clear hcell7 hcell8 e8 hgt hl7 hl8
              go_wp2_with fail
              refine HGC.out.mono ?_
              rintro e wg ⟨rg, rfl, hes, hbg⟩
              obtain ⟨rfl, _⟩ := hes.nil rfl
              have HBg := Lib.hid (HBi.out.trans (hbg.mono HBi.out.size))
              have e8 := E8.out wg hbg
              clear hes hbg e7 HGC
              go_wp2
              go_roundg (Z'.length - (i + 1))
              case measure => omega
              case rel => exact ⟨i + 1, by go_num, hil, rfl, HBg⟩
            · obtain rfl : i = Z'.length := by omega
              go_wp2
              go_roundg (l.length - (k + 1))
              case measure => omega
              case rel => exact ⟨k + 1, P', Z', b7, f5, by go_num, hkl, rfl, OK', KS', ZK', by omega, HKi⟩
        · have hpp := HER.out hc
          subst hpp
          obtain ⟨ty, pv, rfl⟩ := hev5.some hc
          clear hev5 HKS HER hc
          go_wp2
          go_loopg [17] Z.length (fun gh v17 wr => ∃ i : Nat, v17 = .int .i64 i ∧ i ≤ Z.length ∧ gh = Z.length - i ∧ Hid (Below w5.heap.size w5 wr))
          case atStart => exact ⟨0, rfl, Nat.zero_le _, rfl, Lib.hid (Below.refl _ _)⟩
          case round =>
            obtain ⟨i, rfl, hiz, hgi, HBi⟩ := hrel
            have HKi := Lib.hid (H5.out.below HBi.out)
            by_cases hil : i < Z.length
            · obtain ⟨hc7, hl7, g7, rfl, _, hg7, hcell7⟩ := HKi.out.at7 (by omega)
              obtain ⟨hc8, hl8, g8, rfl, _, hg8, hcell8⟩ := HKi.out.at8 (by omega)
              have e7 := hcell7 i (by omega)
              have e8 := hcell8 i (by omega)
              rw [List.getElem_map] at e7 e8
              have hzk := ZK.out Z[i] (List.getElem_mem hil)
              have hgt := KS.out.get Z[i] (List.getElem_mem hil)
              have E8 : Hid (∀ w', Below wr.heap.size wr w' → w'.cell? ⟨g8, i, none⟩ = some (.string (bs Z[i].2))) := Lib.hid (fun w' hb => (hb.cell (p := ⟨g8, i, none⟩) hg8).trans e8)
              have b3 : (0 : Int) ≤ (i : Int) := by omega
              have b4 : (i : Int) < (Z.length : Int) := by omega
              have V2 := bne_self_eq_false (bs Z[i].2).toList
              have V3 := beq_self_eq_true (bs Z[i].2).toList
              have HGC := Lib.hid (Node.getC a OK.out Z[i].1 (by unfold StrOk maxLen; omega) wr HKi.out.nin.node ((HS.out.below HKi.out.nin.bel).sub (js := [1, 2, 3, 4, 6, 8]) (by decide)))
              rw [hgt] at HGC
              unfold GetPost at HGC
              generalize Z[i].1 = zn at *
              generalize Z[i].2 = zt at *
              clear hcell7 hcell8 e8 hgt hl7 hl8
              go_wp2_with fail
              refine HGC.out.mono ?_
              rintro e wg ⟨rg, rfl, hes, hbg⟩
              obtain ⟨rfl, _⟩ := hes.nil rfl
              have HBg := Lib.hid (HBi.out.trans (hbg.mono HBi.out.size))
              have e8 := E8.out wg hbg
              clear hes hbg e7 HGC
              go_wp2
              go_roundg (Z.length - (i + 1))
              case measure => omega
              case rel => exact ⟨i + 1, by go_num, hil, rfl, HBg⟩
            · obtain rfl : i = Z.length := by omega
              go_wp2
              go_roundg (l.length - (k + 1))
              case measure => omega
              case rel => exact ⟨k + 1, P', Z, b7, f5, by go_num, hkl, rfl, OK, KS, ZK, by omega, HKi⟩
      · have k1i : ((bs KD).toList == [112, 117, 116]) = false := by rw [bs_listK]; exact beq_eq_false_iff_ne.2 k1
        by_cases k2 : KD = [100, 114, 111, 112]
        · have k2i : ((bs KD).toList == [100, 114, 111, 112]) = true := by rw [k2, bs_listK]; rfl
          clear k1 k2
          have hzq : (wo.alloc (.cells #[.string (bs KD), .string (bs NM), .string (bs SX)] 29)).heap.size = (wo.alloc (.cells #[.string (bs KD), .string (bs NM), .string (bs SX)] 29)).heap.size := rfl
          go_wp2
          go_loopg [13, 14, 15] Z.length (fun gh v13 v14 v15 wr => ∃ (j q : Nat), v15 = .int .i64 j ∧ j ≤ Z.length ∧ gh = Z.length - j ∧ Hid (q = (dropZ NM (Z.take j)).length) ∧ q ≤ j ∧ Hid (wr.ownsRow (wo.alloc (.cells #[.string (bs KD), .string (bs NM), .string (bs SX)] 29)).heap.size 9 1 v13 q (((dropZ NM (Z.take j)).map (·.1)).map VT)) ∧ Hid (wr.ownsRow (wo.alloc (.cells #[.string (bs KD), .string (bs NM), .string (bs SX)] 29)).heap.size 9 1 v14 q (((dropZ NM (Z.take j)).map (·.2)).map VT)) ∧ Hid (∀ g, v13.ownBlock = some g → v14.ownBlock ≠ some g) ∧ Hid (Below (wo.alloc (.cells #[.string (bs KD), .string (bs NM), .string (bs SX)] 29)).heap.size (wo.alloc (.cells #[.string (bs KD), .string (bs NM), .string (bs SX)] 29)) wr))
          case atStart => exact ⟨0, 0, rfl, Nat.zero_le _, rfl, Lib.hid rfl, Nat.le_refl _, Lib.hid (World.ownsRow_nil _ _ _ _), Lib.hid (World.ownsRow_nil _ _ _ _), Lib.hid (fun g e => by cases e), Lib.hid (Below.refl _ _)⟩
          case round =>
            obtain ⟨j, q, rfl, hjz, hgj, HQ, hqj, R13, R14, HAP, HBj⟩ := hrel
            have hzr := HBj.out.size
            by_cases hjl : j < Z.length
            · obtain ⟨hc7, hl7, g7, rfl, _, hg7, hcell7⟩ := H4.out.at7 (by omega)
              obtain ⟨hc8, hl8, g8, rfl, _, hg8, hcell8⟩ := H4.out.at8 (by omega)
              have e7 := hcell7 j (by omega)
              have e8 := hcell8 j (by omega)
              rw [List.getElem_map] at e7 e8
              have E7 : Hid (∀ w', Below (wo.alloc (.cells #[.string (bs KD), .string (bs NM), .string (bs SX)] 29)).heap.size (wo.alloc (.cells #[.string (bs KD), .string (bs NM), .string (bs SX)] 29)) w' → w'.cell? ⟨g7, j, none⟩ = some (.string (bs Z[j].1)) ∧ w'.cell? ⟨g8, j, none⟩ = some (.string (bs Z[j].2)) ∧ Box3 wo.heap.size (.string (bs KD)) (.string (bs NM)) (.string (bs SX)) w') := Lib.hid (fun w' hb => ⟨(hb.cell (p := ⟨g7, j, none⟩) hg7).trans e7, (hb.cell (p := ⟨g8, j, none⟩) hg8).trans e8, HX4.out.below hb HX4.out.lt⟩)
              obtain ⟨d7, d8, y0, y1, y2⟩ := E7.out wr HBj.out
              have hzk := ZK.out Z[j] (List.getElem_mem hjl)
              have HDY : Hid (Z[j].1 ≠ NM → dropZ NM (Z.take (j + 1)) = dropZ NM (Z.take j) ++ [Z[j]]) := Lib.hid (fun h => dropZ_yes hjl h)
              have HDN : Hid (Z[j].1 = NM → dropZ NM (Z.take (j + 1)) = dropZ NM (Z.take j)) := Lib.hid (fun h => dropZ_no hjl h)
              have b3 : (0 : Int) ≤ (j : Int) := by omega
              have b4 : (j : Int) < (Z.length : Int) := by omega
              generalize hzj : Z[j] = zj at *
              obtain ⟨zn, zt⟩ := zj
              simp only at d7 d8 hzk HDY HDN E7
              clear hcell7 hcell8 e7 e8 hl7 hl8 hzj
              by_cases hne : zn = NM
              · have he : ((bs zn).toList == (bs NM).toList) = true := by rw [hne]; exact beq_self_eq_true _
                have he' : ((bs zn).toList != (bs NM).toList) = false := by rw [hne]; exact bne_self_eq_false _
                have hd := HDN.out hne
                have R13' : Hid (wr.ownsRow (wo.alloc (.cells #[.string (bs KD), .string (bs NM), .string (bs SX)] 29)).heap.size 9 1 u13 q (((dropZ NM (Z.take (j + 1))).map (·.1)).map VT)) := Lib.hid (by rw [hd]; exact R13.out)
                have R14' : Hid (wr.ownsRow (wo.alloc (.cells #[.string (bs KD), .string (bs NM), .string (bs SX)] 29)).heap.size 9 1 u14 q (((dropZ NM (Z.take (j + 1))).map (·.2)).map VT)) := Lib.hid (by rw [hd]; exact R14.out)
                have HQ' : Hid (q = (dropZ NM (Z.take (j + 1))).length) := Lib.hid (by rw [hd]; exact HQ.out)
                clear hne hd
                go_wp2
                go_quiet (fail)
                go_wp2
                go_roundg (Z.length - (j + 1))
                case measure => omega
                case rel => exact ⟨j + 1, q, by go_num, hjl, rfl, HQ', by omega, Lib.hid (own_belowI R13'.out (below_drewN (Below.refl _ _) _)), Lib.hid (own_belowI R14'.out (below_drewN (Below.refl _ _) _)), HAP, Lib.hid (below_drewN HBj.out _)⟩
              · have he : ((bs zn).toList == (bs NM).toList) = false := by rw [bs_listK, bs_listK]; exact beq_eq_false_iff_ne.2 hne
                have he' : ((bs zn).toList != (bs NM).toList) = true := by rw [bs_listK, bs_listK]; exact bne_iff_ne.2 hne
                have HD := Lib.hid (HDY.out hne)
                clear hne
                go_wp2
                go_quiet (fail)
                have hbd0 := below_drewN (Below.refl wr.heap.size wr) nq
                have HBd := Lib.hid (HBj.out.trans (hbd0.mono hzr))
                have R13d := Lib.hid (own_belowI R13.out hbd0)
                have R14d := Lib.hid (own_belowI R14.out hbd0)
                have hzd : (wo.alloc (.cells #[.string (bs KD), .string (bs NM), .string (bs SX)] 29)).heap.size ≤ (wr.drewN nq).heap.size := Nat.le_trans hzr hbd0.size
                generalize wr.drewN nq = wd at *
                obtain ⟨d7, d8, y0, y1, y2⟩ := E7.out wd HBd.out
                have hba : Below wd.heap.size wd (wd.alloc (.cells #[.string (bs zn)] 9)) := (Below.refl _ _).alloc (Nat.le_refl _) _
                have R13a := Lib.hid (own_belowI R13d.out hba)
                have R14a := Lib.hid (own_belowI R14d.out hba)
                have HBa := Lib.hid (HBd.out.trans (hba.mono hzd))
                have hza : (wo.alloc (.cells #[.string (bs KD), .string (bs NM), .string (bs SX)] 29)).heap.size ≤ (wd.alloc (.cells #[.string (bs zn)] 9)).heap.size := Nat.le_trans hzd hba.size
                have hz60 : Z.length ≤ 60 := by omega
                clear hbd0 hba R13 R14 R13d R14d HBj
                go_wp2_with (first | (at_builtin; refine wpList_append_own_at _ rfl (.tmp 90) (.tmp 95) 27 rfl (wo.alloc (.cells #[.string (bs KD), .string (bs NM), .string (bs SX)] 29)).heap.size 9 i0 (.string ByteArray.empty) 1 16 Tryz.underlying27 hi hz0 hz1 hz2 rfl (by decide) _ _ _ rfl R13a.out ⟨wd.heap.size, 0, none⟩ 1 1 [.string (bs zn)] rfl rfl (cell_oneG _ _ _) (by simp [Value.oneCell']) (by unfold maxLen; omega) (by omega) hza ?_; intro vx wx hox hgx _ hax; have HBx := Lib.hid (HBa.out.grown hgx hza (fun g e => own_ge R13a.out e)); have R14x := Lib.hid (own_gbN R14a.out hgx (fun g e1 e2 => HAP.out g e2 e1)); have HAPx : Hid (∀ g, vx.ownBlock = some g → u14.ownBlock ≠ some g) := Lib.hid (ap_new HAP.out hax R14a.out); have hzx := Nat.le_trans hza hgx.size; obtain ⟨e7, e8, _, _, _⟩ := E7.out wx HBx.out; have hbb : Below wx.heap.size wx (wx.alloc (.cells #[.string (bs zt)] 9)) := (Below.refl _ _).alloc (Nat.le_refl _) _; have R14b := Lib.hid (own_belowI R14x.out hbb); have R13b := Lib.hid (own_belowI hox hbb); have HBb := Lib.hid (HBx.out.trans (hbb.mono hzx)); have hzb := Nat.le_trans hzx hbb.size; clear hox hgx hax hbb) | (at_builtin; refine wpList_append_own_at _ rfl (.tmp 97) (.tmp 102) 27 rfl (wo.alloc (.cells #[.string (bs KD), .string (bs NM), .string (bs SX)] 29)).heap.size 9 i0 (.string ByteArray.empty) 1 16 Tryz.underlying27 hi hz0 hz1 hz2 rfl (by decide) _ _ _ rfl R14b.out ⟨wx.heap.size, 0, none⟩ 1 1 [.string (bs zt)] rfl rfl (cell_oneG _ _ _) (by simp [Value.oneCell']) (by unfold maxLen; omega) (by omega) hzb ?_; intro vy wy hoy hgy _ hay; have HBy := Lib.hid (HBb.out.grown hgy hzb (fun g e => own_ge R14b.out e)); have R13y := Lib.hid (own_gbN R13b.out hgy (fun g e1 e2 => HAPx.out g e1 e2)); have HAPy : Hid (∀ g, vx.ownBlock = some g → vy.ownBlock ≠ some g) := Lib.hid (fun g e1 e2 => ap_new (fun g e1 e2 => HAPx.out g e2 e1) hay R13b.out g e2 e1); have R14y := Lib.hid hoy; clear hoy hgy hay))
                have HQ' : Hid (q + 1 = (dropZ NM (Z.take (j + 1))).length) := Lib.hid (by rw [HD.out, List.length_append, HQ.out]; rfl)
                have R13' : Hid (wy.ownsRow (wo.alloc (.cells #[.string (bs KD), .string (bs NM), .string (bs SX)] 29)).heap.size 9 1 vx (q + 1) (((dropZ NM (Z.take (j + 1))).map (·.1)).map VT)) := Lib.hid (by rw [HD.out, List.map_append, List.map_append]; exact R13y.out)
                have R14' : Hid (wy.ownsRow (wo.alloc (.cells #[.string (bs KD), .string (bs NM), .string (bs SX)] 29)).heap.size 9 1 vy (q + 1) (((dropZ NM (Z.take (j + 1))).map (·.2)).map VT)) := Lib.hid (by rw [HD.out, List.map_append, List.map_append]; exact R14y.out)
                go_roundg (Z.length - (j + 1))
                case measure => omega
                case rel => exact ⟨j + 1, q + 1, by go_num, hjl, rfl, HQ', by omega, R13', R14', HAPy, HBy⟩
            · obtain rfl : j = Z.length := by omega
              rw [List.take_length] at HQ R13 R14
              have hKx := (H4.out.below HBj.out).swap H4.out.nin.node.lt H4.out.nin.sz hzr R13.out R14.out HAP.out
              have hqe := HQ.out
              have hdr := KS.out.dropped NM
              have KS0 := KS.out.drop OK.out NM
              have OK' := Lib.hid (OK.out.drop NM)
              have ZK' : Hid (ZOk (dropZ NM Z)) := Lib.hid (fun z hz => ZK.out z (dropZ_mem hz))
              have hdl := dropZ_len NM Z
              have hsame := dropZ_same NM Z
              change KeepSt (dropN NM P).1 (dropZ NM Z) at KS0
              change ((dropN NM P).2 = 0 ∧ (dropZ NM Z).length < Z.length) ∨ ((dropN NM P).2 = 5 ∧ (dropZ NM Z).length = Z.length) at hdr
              have KS' := Lib.hid KS0
              subst hqe
              generalize dropZ NM Z = ZD at *
              obtain ⟨A13, c13, hv13⟩ := own_formI R13.out
              obtain ⟨A14, c14, hv14⟩ := own_formI R14.out
              subst hv13
              subst hv14
              have HKX := Lib.hid hKx
              obtain ⟨y0, y1, y2⟩ := HX4.out.below HBj.out HX4.out.lt
              have HDRP := Lib.hid (Node.dropC a OK.out NM (by unfold StrOk maxLen; omega) wr HKX.out.nin.node ((HS.out.below HKX.out.nin.bel).sub (js := [4, 10]) (by decide)))
              generalize (dropN NM P).1 = P' at *
              generalize (dropN NM P).2 = cd at *
              clear hKx R13 R14 HAP HBj HQ KS0 hzr
              go_wp2_with fail
              refine HDRP.out.mono ?_
              rintro e w8 ⟨r8, rfl, hes, ht8⟩
              obtain ⟨f8, h8⟩ := HKX.out.to ht8
              have H8 := Lib.hid h8
              clear ht8 h8 y0 y1 y2 HDRP
              rcases hdr with ⟨hc, hlt⟩ | ⟨hc, hle⟩
              · obtain ⟨rfl, _⟩ := hes.nil hc
                have hli : ((ZD.length : Int) < (Z.length : Int)) := by omega
                have hzk1 : ZD.length ≤ k + 1 := by omega
                clear hes hdl hsame hlt hc
                go_wp2
                go_loopg [17] ZD.length (fun gh v17 wr => ∃ i : Nat, v17 = .int .i64 i ∧ i ≤ ZD.length ∧ gh = ZD.length - i ∧ Hid (Below w8.heap.size w8 wr))
                case atStart => exact ⟨0, rfl, Nat.zero_le _, rfl, Lib.hid (Below.refl _ _)⟩
                case round =>
                  obtain ⟨i, rfl, hiz, hgi, HBi⟩ := hrel
                  have HKi := Lib.hid (H8.out.below HBi.out)
                  by_cases hil : i < ZD.length
                  · obtain ⟨hc7, hl7, g7, rfl, _, hg7, hcell7⟩ := HKi.out.at7 (by omega)
                    obtain ⟨hc8, hl8, g8, rfl, _, hg8, hcell8⟩ := HKi.out.at8 (by omega)
                    have e7 := hcell7 i (by omega)
                    have e8 := hcell8 i (by omega)
                    rw [List.getElem_map] at e7 e8
                    have hzk := ZK'.out ZD[i] (List.getElem_mem hil)
                    have hgt := KS'.out.get ZD[i] (List.getElem_mem hil)
                    have E8 : Hid (∀ w', Below wr.heap.size wr w' → w'.cell? ⟨g8, i, none⟩ = some (.string (bs ZD[i].2))) := Lib.hid (fun w' hb => (hb.cell (p := ⟨g8, i, none⟩) hg8).trans e8)
                    have b3 : (0 : Int) ≤ (i : Int) := by omega
                    have b4 : (i : Int) < (ZD.length : Int) := by omega
                    have V2 := bne_self_eq_false (bs ZD[i].2).toList
                    have V3 := beq_self_eq_true (bs ZD[i].2).toList
                    have HGC := Lib.hid (Node.getC a OK'.out ZD[i].1 (by unfold StrOk maxLen; omega) wr HKi.out.nin.node ((HS.out.below HKi.out.nin.bel).sub (js := [1, 2, 3, 4, 6, 8]) (by decide)))
                    rw [hgt] at HGC
                    unfold GetPost at HGC
                    generalize ZD[i].1 = zn at *
                    generalize ZD[i].2 = zt at *
                    clear hcell7 hcell8 e8 hgt hl7 hl8
                    go_wp2_with fail
                    refine HGC.out.mono ?_
                    rintro e wg ⟨rg, rfl, hes, hbg⟩
                    obtain ⟨rfl, _⟩ := hes.nil rfl
                    have HBg := Lib.hid (HBi.out.trans (hbg.mono HBi.out.size))
                    have e8 := E8.out wg hbg
                    clear hes hbg e7 HGC
                    go_wp2
                    go_roundg (ZD.length - (i + 1))
                    case measure => omega
                    case rel => exact ⟨i + 1, by go_num, hil, rfl, HBg⟩
                  · obtain rfl : i = ZD.length := by omega
                    go_wp2
                    go_roundg (l.length - (k + 1))
                    case measure => omega
                    case rel => exact ⟨k + 1, P', ZD, (wo.alloc (.cells #[.string (bs KD), .string (bs NM), .string (bs SX)] 29)).heap.size, f8, by go_num, hkl, rfl, OK', KS', ZK', by omega, HKi⟩
              · obtain ⟨ty, pv, rfl⟩ := hes.some (by rw [hc]; decide)
                have hzz := hsame hle
                clear hes hdl hsame hle hc
                subst hzz
                have hli : ¬ ((ZD.length : Int) < (ZD.length : Int)) := by omega
                have hld : decide ((ZD.length : Int) < (ZD.length : Int)) = false := decide_eq_false hli
                have hzk1 : ZD.length ≤ k + 1 := by omega
                go_wp2
                go_loopg [17] ZD.length (fun gh v17 wr => ∃ i : Nat, v17 = .int .i64 i ∧ i ≤ ZD.length ∧ gh = ZD.length - i ∧ Hid (Below w8.heap.size w8 wr))
                case atStart => exact ⟨0, rfl, Nat.zero_le _, rfl, Lib.hid (Below.refl _ _)⟩
                case round =>
                  obtain ⟨i, rfl, hiz, hgi, HBi⟩ := hrel
                  have HKi := Lib.hid (H8.out.below HBi.out)
                  by_cases hil : i < ZD.length
                  · obtain ⟨hc7, hl7, g7, rfl, _, hg7, hcell7⟩ := HKi.out.at7 (by omega)
                    obtain ⟨hc8, hl8, g8, rfl, _, hg8, hcell8⟩ := HKi.out.at8 (by omega)
                    have e7 := hcell7 i (by omega)
                    have e8 := hcell8 i (by omega)
                    rw [List.getElem_map] at e7 e8
                    have hzk := ZK'.out ZD[i] (List.getElem_mem hil)
                    have hgt := KS'.out.get ZD[i] (List.getElem_mem hil)
                    have E8 : Hid (∀ w', Below wr.heap.size wr w' → w'.cell? ⟨g8, i, none⟩ = some (.string (bs ZD[i].2))) := Lib.hid (fun w' hb => (hb.cell (p := ⟨g8, i, none⟩) hg8).trans e8)
                    have b3 : (0 : Int) ≤ (i : Int) := by omega
                    have b4 : (i : Int) < (ZD.length : Int) := by omega
                    have V2 := bne_self_eq_false (bs ZD[i].2).toList
                    have V3 := beq_self_eq_true (bs ZD[i].2).toList
                    have HGC := Lib.hid (Node.getC a OK'.out ZD[i].1 (by unfold StrOk maxLen; omega) wr HKi.out.nin.node ((HS.out.below HKi.out.nin.bel).sub (js := [1, 2, 3, 4, 6, 8]) (by decide)))
                    rw [hgt] at HGC
                    unfold GetPost at HGC
                    generalize ZD[i].1 = zn at *
                    generalize ZD[i].2 = zt at *
                    clear hcell7 hcell8 e8 hgt hl7 hl8
                    go_wp2_with fail
                    refine HGC.out.mono ?_
                    rintro e wg ⟨rg, rfl, hes, hbg⟩
                    obtain ⟨rfl, _⟩ := hes.nil rfl
                    have HBg := Lib.hid (HBi.out.trans (hbg.mono HBi.out.size))
                    have e8 := E8.out wg hbg
                    clear hes hbg e7 HGC
                    go_wp2
                    go_roundg (ZD.length - (i + 1))
                    case measure => omega
                    case rel => exact ⟨i + 1, by go_num, hil, rfl, HBg⟩
                  · obtain rfl : i = ZD.length := by omega
                    go_wp2
                    go_roundg (l.length - (k + 1))
                    case measure => omega
                    case rel => exact ⟨k + 1, P', ZD, (wo.alloc (.cells #[.string (bs KD), .string (bs NM), .string (bs SX)] 29)).heap.size, f8, by go_num, hkl, rfl, OK', KS', ZK', by omega, HKi⟩
        · have k2i : ((bs KD).toList == [100, 114, 111, 112]) = false := by rw [bs_listK]; exact beq_eq_false_iff_ne.2 k2
          by_cases k3 : KD = [115, 119, 101, 101, 112]
          · have k3i : ((bs KD).toList == [115, 119, 101, 101, 112]) = true := by rw [k3, bs_listK]; rfl
            clear k1 k2 k3
            have HSZ := Lib.hid (Node.sizeC OK.out (wo.alloc (.cells #[.string (bs KD), .string (bs NM), .string (bs SX)] 29)) H4.out.nin.node)
            have KS' := Lib.hid (KS.out.sweep OK.out)
            have OK' := Lib.hid OK.out.sweep
            have hs1 := OK.out.size
            have hs2 := OK.out.sweep.size
            have hb1 := OK.out.blen
            have hb2 := OK.out.sweep.blen
            have hf1 := OK.out.flen
            have hf2 : (sweepN P).files.length ≤ 30 := OK.out.sweep.flen
            have hq : ((sizeN P - (sizeN P - sizeN (sweepN P))) != sizeN (sweepN P)) = false := by rw [bne_eq_false_iff_eq]; omega
            have hq0 : 0 ≤ sizeN P ∧ sizeN P ≤ 480000 := by omega
            have hq1 : 0 ≤ sizeN (sweepN P) ∧ sizeN (sweepN P) ≤ 480000 := by omega
            have hqe : sizeN P - (sizeN P - sizeN (sweepN P)) = sizeN (sweepN P) := by omega
            have HQE := Lib.hid hqe
            obtain ⟨q1, q2⟩ := hq0
            obtain ⟨q3, q4⟩ := hq1
            clear hs1 hs2 hb1 hb2 hf1 hf2 hq hqe
            go_wp2_with fail
            refine HSZ.out.mono ?_
            rintro e w5 ⟨rfl, hb5⟩
            have H5 := Lib.hid (H4.out.below hb5)
            have HSW := Lib.hid (Node.sweepC OK.out w5 H5.out.nin.node)
            clear hb5 HSZ
            go_wp2_with fail
            refine HSW.out.mono ?_
            rintro e w6 ⟨rfl, ht6⟩
            obtain ⟨f6, h6⟩ := H5.out.to ht6
            have H6 := Lib.hid h6
            have HSZ2 := Lib.hid (Node.sizeC OK'.out w6 H6.out.nin.node)
            clear ht6 h6 HSW
            go_wp2_with fail
            refine HSZ2.out.mono ?_
            rintro e w7 ⟨rfl, hb7⟩
            have H7 := Lib.hid (H6.out.below hb7)
            have hq : ((sizeN P - (sizeN P - sizeN (sweepN P))) != sizeN (sweepN P)) = false := by rw [bne_eq_false_iff_eq]; exact HQE.out
            have hq' : ((sizeN P - (sizeN P - sizeN (sweepN P))) == sizeN (sweepN P)) = true := by rw [beq_iff_eq]; exact HQE.out
            clear hb7 HSZ2
            go_wp2
            go_loopg [17] Z.length (fun gh v17 wr => ∃ i : Nat, v17 = .int .i64 i ∧ i ≤ Z.length ∧ gh = Z.length - i ∧ Hid (Below w7.heap.size w7 wr))
            case atStart => exact ⟨0, rfl, Nat.zero_le _, rfl, Lib.hid (Below.refl _ _)⟩
            case round =>
              obtain ⟨i, rfl, hiz, hgi, HBi⟩ := hrel
              have HKi := Lib.hid (H7.out.below HBi.out)
              by_cases hil : i < Z.length
              · obtain ⟨hc7, hl7, g7, rfl, _, hg7, hcell7⟩ := HKi.out.at7 (by omega)
                obtain ⟨hc8, hl8, g8, rfl, _, hg8, hcell8⟩ := HKi.out.at8 (by omega)
                have e7 := hcell7 i (by omega)
                have e8 := hcell8 i (by omega)
                rw [List.getElem_map] at e7 e8
                have hzk := ZK.out Z[i] (List.getElem_mem hil)
                have hgt := KS'.out.get Z[i] (List.getElem_mem hil)
                have E8 : Hid (∀ w', Below wr.heap.size wr w' → w'.cell? ⟨g8, i, none⟩ = some (.string (bs Z[i].2))) := Lib.hid (fun w' hb => (hb.cell (p := ⟨g8, i, none⟩) hg8).trans e8)
                have b3 : (0 : Int) ≤ (i : Int) := by omega
                have b4 : (i : Int) < (Z.length : Int) := by omega
                have V2 := bne_self_eq_false (bs Z[i].2).toList
                have V3 := beq_self_eq_true (bs Z[i].2).toList
                have HGC := Lib.hid (Node.getC a OK'.out Z[i].1 (by unfold StrOk maxLen; omega) wr HKi.out.nin.node ((HS.out.below HKi.out.nin.bel).sub (js := [1, 2, 3, 4, 6, 8]) (by decide)))
                rw [hgt] at HGC
                unfold GetPost at HGC
                generalize Z[i].1 = zn at *
                generalize Z[i].2 = zt at *
                clear hcell7 hcell8 e8 hgt hl7 hl8
                go_wp2_with fail
                refine HGC.out.mono ?_
                rintro e wg ⟨rg, rfl, hes, hbg⟩
                obtain ⟨rfl, _⟩ := hes.nil rfl
                have HBg := Lib.hid (HBi.out.trans (hbg.mono HBi.out.size))
                have e8 := E8.out wg hbg
                clear hes hbg e7 HGC
                go_wp2
                go_roundg (Z.length - (i + 1))
                case measure => omega
                case rel => exact ⟨i + 1, by go_num, hil, rfl, HBg⟩
              · obtain rfl : i = Z.length := by omega
                go_wp2
                go_roundg (l.length - (k + 1))
                case measure => omega
                case rel => exact ⟨k + 1, (sweepN P), Z, b7, f6, by go_num, hkl, rfl, OK', KS', ZK, by omega, HKi⟩
          · have k3i : ((bs KD).toList == [115, 119, 101, 101, 112]) = false := by rw [bs_listK]; exact beq_eq_false_iff_ne.2 k3
            clear k1 k2 k3
            go_wp2
            go_loopg [17] Z.length (fun gh v17 wr => ∃ i : Nat, v17 = .int .i64 i ∧ i ≤ Z.length ∧ gh = Z.length - i ∧ Hid (Below (wo.alloc (.cells #[.string (bs KD), .string (bs NM), .string (bs SX)] 29)).heap.size (wo.alloc (.cells #[.string (bs KD), .string (bs NM), .string (bs SX)] 29)) wr))
            case atStart => exact ⟨0, rfl, Nat.zero_le _, rfl, Lib.hid (Below.refl _ _)⟩
            case round =>
              obtain ⟨i, rfl, hiz, hgi, HBi⟩ := hrel
              have HKi := Lib.hid (H4.out.below HBi.out)
              by_cases hil : i < Z.length
              · obtain ⟨hc7, hl7, g7, rfl, _, hg7, hcell7⟩ := HKi.out.at7 (by omega)
                obtain ⟨hc8, hl8, g8, rfl, _, hg8, hcell8⟩ := HKi.out.at8 (by omega)
                have e7 := hcell7 i (by omega)
                have e8 := hcell8 i (by omega)
                rw [List.getElem_map] at e7 e8
                have hzk := ZK.out Z[i] (List.getElem_mem hil)
                have hgt := KS.out.get Z[i] (List.getElem_mem hil)
                have E8 : Hid (∀ w', Below wr.heap.size wr w' → w'.cell? ⟨g8, i, none⟩ = some (.string (bs Z[i].2))) := Lib.hid (fun w' hb => (hb.cell (p := ⟨g8, i, none⟩) hg8).trans e8)
                have b3 : (0 : Int) ≤ (i : Int) := by omega
                have b4 : (i : Int) < (Z.length : Int) := by omega
                have V2 := bne_self_eq_false (bs Z[i].2).toList
                have V3 := beq_self_eq_true (bs Z[i].2).toList
                have HGC := Lib.hid (Node.getC a OK.out Z[i].1 (by unfold StrOk maxLen; omega) wr HKi.out.nin.node ((HS.out.below HKi.out.nin.bel).sub (js := [1, 2, 3, 4, 6, 8]) (by decide)))
                rw [hgt] at HGC
                unfold GetPost at HGC
                generalize Z[i].1 = zn at *
                generalize Z[i].2 = zt at *
                clear hcell7 hcell8 e8 hgt hl7 hl8
                go_wp2_with fail
                refine HGC.out.mono ?_
                rintro e wg ⟨rg, rfl, hes, hbg⟩
                obtain ⟨rfl, _⟩ := hes.nil rfl
                have HBg := Lib.hid (HBi.out.trans (hbg.mono HBi.out.size))
                have e8 := E8.out wg hbg
                clear hes hbg e7 HGC
                go_wp2
                go_roundg (Z.length - (i + 1))
                case measure => omega
                case rel => exact ⟨i + 1, by go_num, hil, rfl, HBg⟩
              · obtain rfl : i = Z.length := by omega
                go_wp2
                go_roundg (l.length - (k + 1))
                case measure => omega
                case rel => exact ⟨k + 1, P, Z, b7, f, by go_num, hkl, rfl, OK, KS, ZK, by omega, HKi⟩
    · obtain rfl : k = l.length := by omega
      have hfl := KS.out.len OK.out
      have hnl : (namesN P).length = Z.length := by unfold namesN; rw [List.length_map]; exact hfl
      have HNM := Lib.hid (fun w' (h : Node n P f w') => Node.namesC OK.out w' h)
      rw [hnl] at HNM
      clear hfl hnl
      go_wp2_with fail
      refine (HNM.out wo H.out.nin.node).mono ?_
      rintro e w5 ⟨vn, rfl, hon, hb5⟩
      obtain ⟨An, cn, rfl⟩ := own_formI hon
      have H5 := Lib.hid (H.out.below hb5)
      clear hon hb5
      by_cases hz0' : Z.length = 0
      · have hzi : (Z.length : Int) = 0 := by omega
        rw [hz0'] at HNM ⊢
        clear hzi
        go_wp2_with fail
        refine (HNM.out w5 H5.out.nin.node).mono ?_
        rintro e w6 ⟨vm, rfl, hom, hb6⟩
        obtain ⟨Am, cm, rfl⟩ := own_formI hom
        have H6 := Lib.hid (H5.out.below hb6)
        clear hom hb6
        go_wp2
        go_ret
        exact ⟨rfl, H6.out.nin.bel⟩
      · have hzp : 0 < Z.length := by omega
        have hzi : ((Z.length : Int) == 0) = false := beq_eq_false_iff_ne.2 (by omega)
        have hzj : (0 : Int) < (Z.length : Int) := by omega
        obtain ⟨hc8, hl8, g8, rfl, _, hg8, hcell8⟩ := H5.out.at8 hzp
        have e8 := hcell8 0 (by omega)
        rw [List.getElem_map] at e8
        have E8 : Hid (∀ w' : World, (∀ p : Addr, p.block = g8 → w'.cell? p = w5.cell? p) → w'.cell? ⟨g8, 0, none⟩ = some (.string (bs Z[0].2))) := Lib.hid (fun w' h => (h ⟨g8, 0, none⟩ rfl).trans e8)
        have hzm : Z[0] ∈ Z := List.getElem_mem hzp
        have hzk := ZK.out Z[0] hzm
        have hag := KS.out.again OK.out hzm ot
        have hpg : (putN ot Z[0].2 P).2.2 = 0 → getN ot (putN ot Z[0].2 P).1 = (Z[0].2, 0) := fun h => getN_put OK.out h
        have HPUT := Lib.hid (Node.putC a OK.out ot Z[0].2 (by unfold StrOk maxLen; omega) w5 H5.out.nin.node ((HS.out.below H5.out.nin.bel).sub (js := [1, 3, 5, 6, 9]) (by decide)))
        have HOKP := OK.out.put ot Z[0].2
        generalize Z[0].2 = zt at *
        generalize putN ot zt P = PN at *
        obtain ⟨P', fr, cd⟩ := PN
        simp only at HPUT HOKP hag hpg
        subst hag
        have OK' := Lib.hid HOKP
        have HPG := Lib.hid hpg
        have HA8 := Lib.hid H5.out.a8
        clear hcell8 hl8 hzm HOKP hpg
        go_wp2_with fail
        refine HPUT.out.mono ?_
        rintro e w6 ⟨r6, rfl, hev, ht6⟩
        have h8' : w6.cell? ⟨g8, 0, none⟩ = some (.string (bs zt)) := by
          obtain ⟨_, _, hF, _⟩ := ht6
          exact E8.out w6 (fun p hp => hF.cell (by rw [hp]; exact hg8) (by rw [hp]; exact (HA8.out g8 rfl).1))
        obtain ⟨f6, h6⟩ := H5.out.to ht6
        have H6 := Lib.hid h6
        clear ht6 h6 e8 HPUT
        by_cases hc : cd = 0
        · obtain ⟨rfl, _⟩ := hev.nil hc
          have hgn := HPG.out hc
          have HGC := Lib.hid (Node.getC a OK'.out ot (by unfold StrOk maxLen; omega) w6 H6.out.nin.node ((HS.out.below H6.out.nin.bel).sub (js := [1, 2, 3, 4, 6, 8]) (by decide)))
          rw [hgn] at HGC
          unfold GetPost at HGC
          have V3 := beq_self_eq_true (bs zt).toList
          have hg86 : g8 < w6.heap.size := World.block_lt_of_cell? w6 ⟨g8, 0, none⟩ h8'
          clear hev hc hgn HPG
          go_wp2_with fail
          refine HGC.out.mono ?_
          rintro e w7 ⟨r7, rfl, hes, hb7⟩
          obtain ⟨rfl, _⟩ := hes.nil rfl
          have H7 := Lib.hid (H6.out.below hb7)
          have h87 := (hb7.cell (p := ⟨g8, 0, none⟩) hg86).trans h8'
          clear hes hb7 h8' HGC
          go_wp2
          go_ret
          exact ⟨rfl, H7.out.nin.bel⟩
        · obtain ⟨ty, pv, rfl⟩ := hev.some hc
          clear hev hc HPG h8'
          go_wp2
          go_ret
          exact ⟨rfl, H6.out.nin.bel⟩
theorem NodeKeeps_walk (a : Nat → Addr) (v : Value) (l : List ActN) (hl : l.length ≤ maxLen) (hz : ∀ x ∈ l, x.kind.length ≤ maxLen ∧ x.nm.length ≤ maxLen ∧ x.s.length ≤ maxLen) (o : ByteArray) (ho : o.size ≤ maxLen) (w : World) (hv : ActNRd w w.heap.size v l) (h : SomeS keepKs a w) :
    Calls Tryz.prog 3 #[v, .string o] w fun e w' => e = .returned (.bool true) ∧ Below w.heap.size w w' := by
  have hs := size_toList o
  by_cases hot : o.data.toList.length ≤ 30
  · rcases longNs_cases l 60 with h0 | h1
    · have := NodeKeeps_main a v l hl hz o.data.toList hot h0 w hv h
      rwa [bs_of] at this
    · have := NodeKeeps_long a v l hl hz o.data.toList (by omega) (.inl h1) w hv h
      rwa [bs_of] at this
  · have := NodeKeeps_long a v l hl hz o.data.toList (by omega) (.inr (by omega)) w hv h
    rwa [bs_of] at this
end Go.Proofs.YtpanoplcamdnkaaGreatDoor

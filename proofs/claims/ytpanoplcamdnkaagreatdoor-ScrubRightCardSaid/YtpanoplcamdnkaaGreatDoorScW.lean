/- Walk of the law ScrubRight. Condition: the sentinels lie as named. -/
import Derived.Test.YtpanoplcamdnkaaGreatDoorScS
namespace Go.Proofs.YtpanoplcamdnkaaGreatDoor
open Go.RowKit Go.Lib Go.Maps Go.WideMaps

theorem bs_listW (l : Bytes) : (bs l).toList = l := by rw [ByteArray.toList_eq, bs_toList]
theorem NodeOk.binAt {P : PNode} (h : NodeOk P) {q : Idn × HldL} (hq : q ∈ P.bins) : IdOk0 q.1 ∧ BinOk 7500 q.2 ∧ q.2.length ≤ 250 := by
  have hg := alGet_of_mem idEmb h.bsrt hq
  exact ⟨(h.bin q.1 q.2 hg).1, h.bin7 hg, (h.bin q.1 q.2 hg).2.2.1⟩
set_option maxRecDepth 100000 in
theorem ScrubRight_long (a : Nat → Addr) (v : Value) (l : List ActN) (hl : l.length ≤ maxLen) (hz : ∀ x ∈ l, x.kind.length ≤ maxLen ∧ x.nm.length ≤ maxLen ∧ x.s.length ≤ maxLen) (at_ : Int) (hlong : longNs l 60 = 1) (w : World) (hv : ActNRd w w.heap.size v l) (h : Sents a w) :
    Calls Tryz.prog 7 #[v, .int .i64 at_] w fun e w' => e = .returned (.bool true) ∧ Below w.heap.size w w' := by
  have HB := Lib.hid (scrubbed_any a w h)
  have HLA := Lib.hid (fun w1 (hb : Below w.heap.size w w1) => LongActs_any v l hl hz 60 (by decide) _ w1 (hv.below hb))
  have HLG := Lib.hid hlong
  clear h hv hlong
  go_enter Tryz.func7, Tryz.ntmps7
  go_wp2_with fail
  refine HB.out.mono ?_
  rintro e w1 ⟨rfl, hb1⟩
  go_wp2_with fail
  refine (HLA.out w1 hb1).mono ?_
  rintro e w2 ⟨rfl, rfl⟩
  rw [HLG.out]
  have HB1 := Lib.hid hb1
  clear hb1
  go_wp2
  go_ret
  exact ⟨rfl, HB1.out⟩
set_option maxRecDepth 100000 in
set_option maxHeartbeats 4000000 in
theorem ScrubRight_main (a : Nat → Addr) (v : Value) (l : List ActN) (hl : l.length ≤ maxLen) (hz : ∀ x ∈ l, x.kind.length ≤ maxLen ∧ x.nm.length ≤ maxLen ∧ x.s.length ≤ maxLen) (at_ : Int) (hat1 : -9223372036854775808 ≤ at_) (hat2 : at_ ≤ 9223372036854775807) (hlong : longNs l 60 = 0) (w : World) (hv : ActNRd w w.heap.size v l) (h : Sents a w) :
    Calls Tryz.prog 7 #[v, .int .i64 at_] w fun e w' => e = .returned (.bool true) ∧ Below w.heap.size w w' := by
  obtain ⟨hl60, hx60⟩ := longNs_zero hlong
  obtain ⟨i0, hi, hz0, hz1, hz2⟩ := info_parts info_rcp
  obtain ⟨i1, hj, hy0, hy1, hy2⟩ := info_parts info_load
  have HB := Lib.hid (scrubbed_any a w h)
  have HLA := Lib.hid (fun w1 (hb : Below w.heap.size w w1) => LongActs_any v l hl hz 60 (by decide) _ w1 (hv.below hb))
  have HLG := Lib.hid hlong
  have HS := Lib.hid h
  have HXL := Lib.hid hx60
  obtain ⟨A, c, rfl, hlc, hx⟩ := hv
  have HX := Lib.hid hx
  clear h hlong hx hx60 hz
  go_enter Tryz.func7, Tryz.ntmps7
  go_wp2_with fail
  refine HB.out.mono ?_
  rintro e w1 ⟨rfl, hb1⟩
  go_wp2_with fail
  refine (HLA.out w1 hb1).mono ?_
  rintro e w1' ⟨rfl, rfl⟩
  rw [HLG.out]
  have HB1 := Lib.hid hb1
  clear hb1 HLA
  go_wp2_with fail
  refine (NdNew_any w1).mono ?_
  rintro e w2 ⟨n, f0, rfl, hn, hge, hb2⟩
  have H2 : Hid (NIn w.heap.size n ⟨[], []⟩ f0 w w2) := Lib.hid (NIn.new (base := w.heap.size) hn (fun q hq => Nat.le_trans HB1.out.size (hge q hq)) (HB1.out.trans (hb2.mono HB1.out.size)) (Nat.le_trans HB1.out.size hb2.size))
  clear hn hge hb2 HB1
  go_wp2
  go_loopg [7] l.length (fun gh v7 wr => ∃ (k : Nat) (P : PNode) (f : Foot), v7 = .int .i64 k ∧ k ≤ l.length ∧ gh = l.length - k ∧ Hid (NodeOk P) ∧ Hid (NIn w.heap.size n P f w wr))
  case atStart => exact ⟨0, ⟨[], []⟩, f0, rfl, Nat.zero_le _, rfl, Lib.hid NodeOk.nil, H2⟩
  case round =>
    obtain ⟨k, P, f, rfl, hk, hgm, OK, H⟩ := hrel
    by_cases hkl : k < l.length
    · obtain ⟨g, o, rfl, hg, hcells⟩ := HX.out (by omega)
      obtain ⟨c0, c1, c2⟩ := hcells k hkl
      have b1 : (0 : Int) ≤ (k : Int) := by omega
      have b2 : (k : Int) < (l.length : Int) := by omega
      obtain ⟨hx20, hx30, hx600⟩ := HXL.out l[k] (List.getElem_mem hkl)
      generalize l[k].kind = KD at *
      generalize l[k].nm = NM at *
      generalize l[k].s = SX at *
      have d0 := (H.out.bel.cell (p := ⟨g, o + k * 3, none⟩) hg).trans c0
      have d1 := (H.out.bel.cell (p := ⟨g, o + k * 3 + 1, none⟩) hg).trans c1
      have d2 := (H.out.bel.cell (p := ⟨g, o + k * 3 + 2, none⟩) hg).trans c2
      have hb4 : Below wr.heap.size wr (wr.alloc (.cells #[.string (bs KD), .string (bs NM), .string (bs SX)] 29)) := (Below.refl _ _).alloc (Nat.le_refl _) _
      have H4 := Lib.hid (H.out.below hb4)
      have HX4 := Lib.hid (Box3.mk' wr (.string (bs KD)) (.string (bs NM)) (.string (bs SX)) 29)
      obtain ⟨x0, _, _⟩ := HX4.out
      clear hcells c0 c1 c2 hb4
      by_cases k1 : KD = [112, 117, 116]
      · have k1i : ((bs KD).toList == [112, 117, 116]) = true := by rw [k1, bs_listW]; rfl
        clear k1
        have HPUT := Lib.hid (Node.putC a OK.out NM SX (by unfold StrOk maxLen; omega) (wr.alloc (.cells #[.string (bs KD), .string (bs NM), .string (bs SX)] 29)) H4.out.node ((HS.out.below H4.out.bel).someS [1, 3, 5, 6, 9] (by decide)))
        have HOKP := OK.out.put NM SX
        generalize putN NM SX P = PN at *
        obtain ⟨P', fr, cd⟩ := PN
        simp only at HPUT HOKP
        have OK' := Lib.hid HOKP
        clear HOKP
        obtain ⟨x0, x1, x2⟩ := HX4.out
        go_wp2_with fail
        refine HPUT.out.mono ?_
        rintro e w5 ⟨r5, rfl, hev5, ht5⟩
        obtain ⟨f5, h5⟩ := H4.out.to ht5
        have H5 := Lib.hid h5
        clear ht5 h5 x0 x1 x2 HPUT hev5
        have HSO := Lib.hid (ScOf_any a OK'.out w5 H5.out.node ((HS.out.below H5.out.bel).someS [1, 2, 3, 4, 6, 7, 8, 10] (by decide)))
        go_wp2_with fail
        refine HSO.out.mono ?_
        rintro e w9 ⟨rfl, hb9⟩
        have H9 := Lib.hid (H5.out.below hb9)
        clear hb9 HSO
        go_wp2
        go_roundg (l.length - (k + 1))
        case measure => omega
        case rel => exact ⟨k + 1, P', f5, by go_num, hkl, rfl, OK', H9⟩
      · have k1i : ((bs KD).toList == [112, 117, 116]) = false := by rw [bs_listW]; exact beq_eq_false_iff_ne.2 k1
        by_cases k2 : KD = [100, 114, 111, 112]
        · have k2i : ((bs KD).toList == [100, 114, 111, 112]) = true := by rw [k2, bs_listW]; rfl
          clear k1 k2
          have HDRP := Lib.hid (Node.dropC a OK.out NM (by unfold StrOk maxLen; omega) (wr.alloc (.cells #[.string (bs KD), .string (bs NM), .string (bs SX)] 29)) H4.out.node ((HS.out.below H4.out.bel).someS [4, 10] (by decide)))
          have OK' := Lib.hid (OK.out.drop NM)
          generalize dropN NM P = PN at *
          obtain ⟨P', cd⟩ := PN
          simp only at HDRP OK'
          obtain ⟨x0, x1, x2⟩ := HX4.out
          go_wp2_with fail
          refine HDRP.out.mono ?_
          rintro e w5 ⟨r5, rfl, hes5, ht5⟩
          obtain ⟨f5, h5⟩ := H4.out.to ht5
          have H5 := Lib.hid h5
          clear ht5 h5 x0 x1 x2 HDRP hes5
          have HSO := Lib.hid (ScOf_any a OK'.out w5 H5.out.node ((HS.out.below H5.out.bel).someS [1, 2, 3, 4, 6, 7, 8, 10] (by decide)))
          go_wp2_with fail
          refine HSO.out.mono ?_
          rintro e w9 ⟨rfl, hb9⟩
          have H9 := Lib.hid (H5.out.below hb9)
          clear hb9 HSO
          go_wp2
          go_roundg (l.length - (k + 1))
          case measure => omega
          case rel => exact ⟨k + 1, P', f5, by go_num, hkl, rfl, OK', H9⟩
        · have k2i : ((bs KD).toList == [100, 114, 111, 112]) = false := by rw [bs_listW]; exact beq_eq_false_iff_ne.2 k2
          clear k1 k2
          have HSW := Lib.hid (Node.sweepC OK.out (wr.alloc (.cells #[.string (bs KD), .string (bs NM), .string (bs SX)] 29)) H4.out.node)
          have OK' := Lib.hid OK.out.sweep
          generalize sizeN P - sizeN (sweepN P) = q at *
          generalize sweepN P = P' at *
          go_wp2_with fail
          refine HSW.out.mono ?_
          rintro e w5 ⟨rfl, ht5⟩
          obtain ⟨f5, h5⟩ := H4.out.to ht5
          have H5 := Lib.hid h5
          clear ht5 h5 HSW
          have HSO := Lib.hid (ScOf_any a OK'.out w5 H5.out.node ((HS.out.below H5.out.bel).someS [1, 2, 3, 4, 6, 7, 8, 10] (by decide)))
          go_wp2_with fail
          refine HSO.out.mono ?_
          rintro e w9 ⟨rfl, hb9⟩
          have H9 := Lib.hid (H5.out.below hb9)
          clear hb9 HSO
          go_wp2
          go_roundg (l.length - (k + 1))
          case measure => omega
          case rel => exact ⟨k + 1, P', f5, by go_num, hkl, rfl, OK', H9⟩
    · obtain rfl : k = l.length := by omega
      obtain ⟨wo, hwo⟩ : ∃ x, x = wr := ⟨_, rfl⟩
      subst hwo
      have hfl := OK.out.flen
      have hbl := OK.out.blen
      have hnl : (namesN P).length = P.files.length := List.length_map _
      have HNM := Lib.hid (Node.namesC OK.out wo H.out.node)
      rw [hnl] at HNM
      clear hnl hk hgm
      go_wp2_with fail
      refine HNM.out.mono ?_
      rintro e w1 ⟨vn, rfl, hon, hb1⟩
      obtain ⟨NA, nc, hvn, hnc, hnx⟩ := own_rdI hon
      subst hvn
      have HNX := Lib.hid hnx
      have HW1 := Lib.hid (H.out.bel.trans (hb1.mono H.out.sz))
      have HN1 := Lib.hid (H.out.node.below hb1)
      clear hon hb1 hnx HNM
      go_wp2
      go_loopg [9, 11] P.files.length (fun gh v9 v11 wr => ∃ k : Nat, v11 = .int .i64 k ∧ k ≤ P.files.length ∧ gh = P.files.length - k ∧ Hid (OwX rcK wr w1.heap.size 65 v9 ((filesN P).take k)) ∧ Hid (Below w1.heap.size w1 wr))
      case atStart => exact ⟨0, rfl, Nat.zero_le _, rfl, Lib.hid (OwX.nil _ _ _), Lib.hid (Below.refl _ _)⟩
      case round =>
        obtain ⟨k, rfl, hk, hgm, HO, HBr⟩ := hrel
        have hlk : ((filesN P).take k).length = k := by rw [List.length_take]; unfold filesN; rw [List.length_map]; omega
        obtain ⟨A3, c3, hv3⟩ := HO.out.slice
        rw [hlk] at hv3
        subst hv3
        by_cases hkl : k < P.files.length
        · obtain ⟨g, rfl, _, hg, hcell⟩ := HNX.out (by omega)
          have hnm := hcell k (VT P.files[k].1) (by rw [List.getElem?_map]; unfold namesN; rw [List.getElem?_map, List.getElem?_eq_getElem hkl]; rfl)
          have e0 := (HBr.out.cell (p := ⟨g, k, none⟩) hg).trans hnm
          have HB2 := Lib.hid (HW1.out.trans (HBr.out.mono HW1.out.size))
          have hrec := recN_file OK.out hkl
          have hfk : (filesN P).take (k + 1) = (filesN P).take k ++ [P.files[k].2] := by
            rw [List.take_succ_eq_append_getElem (by unfold filesN; rw [List.length_map]; exact hkl)]
            unfold filesN; rw [List.getElem_map]
          have hso : StrOk P.files[k].1 := by
            obtain ⟨_, hn, _⟩ := OK.out.file _ _ (alGet_of_mem strEmb OK.out.fsrt (List.getElem_mem hkl))
            exact isName_ok hn
          have HRC := Lib.hid (Node.recipeC a OK.out P.files[k].1 hso wr (HN1.out.below HBr.out) ((HS.out.below HB2.out).someS [4] (by decide)))
          rw [hrec] at HRC
          have HFK := Lib.hid hfk
          have b1 : (0 : Int) ≤ (k : Int) := by omega
          have b2 : (k : Int) < (P.files.length : Int) := by omega
          generalize P.files[k].1 = nm at *
          generalize P.files[k].2 = r at *
          clear hcell hnm hrec hfk hso
          go_wp2_with fail
          refine HRC.out.mono ?_
          rintro e w4 ⟨v4, r4, rfl, hev, ⟨sl4, rfl, hr4⟩, hb4⟩
          obtain ⟨rfl, _⟩ := hev.nil rfl
          obtain ⟨A4, c4, hsl4⟩ : ∃ A c, sl4 = .slice A r.ids.length c := by obtain ⟨A, c, h, _⟩ := hr4; exact ⟨A, c, h⟩
          subst hsl4
          have HBq := Lib.hid (HBr.out.trans (hb4.mono HBr.out.size))
          have hfar : ∀ q, (Value.slice A3 k c3).ownBlock = some q → 0 < r.ids.length → (Value.slice A4 r.ids.length c4).ownBlock ≠ some q := fun q hq h0 e => by
            have := HO.out.ltX hq
            obtain ⟨A, c, he, hc, hx⟩ := hr4
            obtain ⟨b, o, hA, hlo, _⟩ := hx h0
            injection he with e1 _ _
            rw [e1, hA] at e
            have : b = q := by simpa [Value.ownBlock] using e
            omega
          have HFAR := Lib.hid hfar
          have HR4 := Lib.hid hr4.rd
          have HO4 := Lib.hid (HO.out.below hb4)
          clear hev hr4 hb4 hfar HRC HO
          have haw : Below w4.heap.size w4 (w4.alloc (.cells #[VT r.name, .int .i64 r.len, .int .u32 (r.print : Int), .slice A4 r.ids.length c4] 65)) := (Below.refl _ _).alloc (Nat.le_refl _) _
          have haw2 : Below w4.heap.size w4 ((w4.alloc (.cells #[VT r.name, .int .i64 r.len, .int .u32 (r.print : Int), .slice A4 r.ids.length c4] 65)).alloc (.cells #[VT r.name, .int .i64 r.len, .int .u32 (r.print : Int), .slice A4 r.ids.length c4] 65)) := haw.alloc haw.size _
          obtain ⟨z0, z1, z2, z3, _⟩ := Box4.mk' w4 (VT r.name) (.int .i64 r.len) (.int .u32 (r.print : Int)) (.slice A4 r.ids.length c4) 65
          have HX4 := Lib.hid (HO4.out.below haw2)
          obtain ⟨E, hE, ho, hex⟩ := HX4.out
          have hEl : E.length = k := by rw [← hlk, ← hE, List.length_map]
          have hya : RdI ((w4.alloc (.cells #[VT r.name, .int .i64 r.len, .int .u32 (r.print : Int), .slice A4 r.ids.length c4] 65)).alloc (.cells #[VT r.name, .int .i64 r.len, .int .u32 (r.print : Int), .slice A4 r.ids.length c4] 65)) ((w4.alloc (.cells #[VT r.name, .int .i64 r.len, .int .u32 (r.print : Int), .slice A4 r.ids.length c4] 65)).alloc (.cells #[VT r.name, .int .i64 r.len, .int .u32 (r.print : Int), .slice A4 r.ids.length c4] 65)).heap.size (.slice A4 r.ids.length c4) r.ids := (HR4.out.keep haw2 (Nat.le_refl _)).more haw2.size
          have hok := ho
          rw [hEl] at hok
          have hok2 : ((w4.alloc (.cells #[VT r.name, .int .i64 r.len, .int .u32 (r.print : Int), .slice A4 r.ids.length c4] 65)).alloc (.cells #[VT r.name, .int .i64 r.len, .int .u32 (r.print : Int), .slice A4 r.ids.length c4] 65)).ownsRow w1.heap.size 65 4 (.slice A3 k c3) k (rcK.row E) := hok
          have HOK2 := Lib.hid hok2
          have HNE := Lib.hid (cells_new4 (w4.alloc (.cells #[VT r.name, .int .i64 r.len, .int .u32 (r.print : Int), .slice A4 r.ids.length c4] 65)) (VT r.name) (.int .i64 r.len) (.int .u32 (r.print : Int)) (.slice A4 r.ids.length c4) 65)
          have HBA2 := Lib.hid (HBq.out.trans (haw2.mono HBq.out.size))
          have HE := Lib.hid hE
          have HHO := Lib.hid ho
          have HEX := Lib.hid hex
          have HYA := Lib.hid hya
          have HEL := Lib.hid hEl
          have HONE := Lib.hid (rcK.one (a := r) hya)
          have hwa : (w4.alloc (.cells #[VT r.name, .int .i64 r.len, .int .u32 (r.print : Int), .slice A4 r.ids.length c4] 65)).heap.size = w4.heap.size + 1 := by simp
          clear haw haw2 hE ho hex hya hok hok2 hEl
          go_wp2_with (first | (at_builtin; refine wpList_append_own_at _ rfl (.tmp 84) (.tmp 86) 61 rfl w1.heap.size 65 i0 (.agg #[.string ByteArray.empty, .int .i64 0, .int .u32 0, .slice none 0 0]) 4 56 Tryz.underlying61 hi hz0 hz1 hz2 rfl (by decide) (.slice A3 k c3) k (rcK.row E) rfl HOK2.out ⟨w4.heap.size + 1, 0, none⟩ 1 1 [VT r.name, .int .i64 r.len, .int .u32 (r.print : Int), .slice A4 r.ids.length c4] rfl rfl (by rw [← hwa]; exact HNE.out) HONE.out (by unfold maxLen; omega) (by omega) HBA2.out.size ?_; intro v7 w7 hown7 hg7 _ hat7) | fail)
          have HO7 := Lib.hid (OwX.snoc HE.out HHO.out HEX.out (a := r) HYA.out HFAR.out (by rw [HEL.out]; exact hown7) hg7 hat7)
          have HB7 := Lib.hid (HBA2.out.grown hg7 HBA2.out.size (fun q hq => own_ge HHO.out hq))
          rw [← HFK.out] at HO7
          clear hown7 hg7 hat7
          go_wp2
          go_roundg (P.files.length - (k + 1))
          case measure => omega
          case rel => exact ⟨k + 1, by go_num, hkl, rfl, HO7, HB7⟩
        · obtain rfl : k = P.files.length := by omega
          obtain ⟨wo, hwo⟩ : ∃ x, x = wr := ⟨_, rfl⟩
          subst hwo
          have hfe : (filesN P).take P.files.length = filesN P := List.take_of_length_le (by unfold filesN; rw [List.length_map]; exact Nat.le_refl _)
          rw [hfe] at HO
          have hfn : (filesN P).length = P.files.length := by unfold filesN; rw [List.length_map]
          have HB2 := Lib.hid (HW1.out.trans (HBr.out.mono HW1.out.size))
          have HRP := Lib.hid (Node.repsC OK.out wo (HN1.out.below HBr.out))
          have hrl : (repsN P).length = P.bins.length := List.length_map _
          unfold IdsPost at HRP
          rw [hrl] at HRP
          have HN5 := Lib.hid (HN1.out.below HBr.out)
          clear hfe hk hgm
          go_wp2_with fail
          refine HRP.out.mono ?_
          rintro e w5 ⟨vr, rfl, hor, hb5⟩
          obtain ⟨RA, rc, hvr⟩ := own_formI hor
          subst hvr
          have hrd : RdI w5 w5.heap.size (.slice RA P.bins.length rc) (repsN P) := RdI.own hor hrl.symm
          obtain ⟨RA', rc', hvr', _, hrx⟩ := hrd.form
          rw [hrl] at hvr'
          injection hvr' with hv1 _ hv3
          subst hv1; subst hv3
          have HRX := Lib.hid hrx
          have HB5 := Lib.hid (HB2.out.trans (hb5.mono HB2.out.size))
          have HO5 := Lib.hid (HO.out.below hb5).rs
          have HN6 := Lib.hid (HN5.out.below hb5)
          clear hor hb5 hrd hrx HRP HO HN5
          go_wp2
          go_loopg [15, 16] P.bins.length (fun gh v15 v16 wr => ∃ k : Nat, v16 = .int .i64 k ∧ k ≤ P.bins.length ∧ gh = P.bins.length - k ∧ Hid (OwXP (ldoK w5.heap.size) wr w5.heap.size 72 v15 ((loadsN P).take k)) ∧ Hid (Below w5.heap.size w5 wr))
          case atStart => exact ⟨0, rfl, Nat.zero_le _, rfl, Lib.hid (OwXP.nil _ _ _), Lib.hid (Below.refl _ _)⟩
          case round =>
            obtain ⟨k, rfl, hk, hgm, HQ, HBq⟩ := hrel
            have hlk : ((loadsN P).take k).length = k := by rw [List.length_take]; unfold loadsN; rw [List.length_map]; omega
            obtain ⟨A8, c8, hv8⟩ := HQ.out.ow.slice
            rw [hlk] at hv8
            subst hv8
            have HBw := Lib.hid (HB5.out.trans (HBq.out.mono HB5.out.size))
            by_cases hkl : k < P.bins.length
            · obtain ⟨g, o, rfl, hg, hcell⟩ := HRX.out (by omega)
              obtain ⟨i0', i1'⟩ := hcell k (by omega)
              have hrk : (repsN P)[k]'(by omega) = P.bins[k].1 := by unfold repsN; rw [List.getElem_map]
              rw [hrk] at i0' i1'
              have e0 := (HBq.out.cell (p := ⟨g, o + k * 2, none⟩) hg).trans i0'
              have e1 := (HBq.out.cell (p := ⟨g, o + k * 2 + 1, none⟩) hg).trans i1'
              have hbk := OK.out.binK hkl
              have hfk : (loadsN P).take (k + 1) = (loadsN P).take k ++ [⟨P.bins[k].1, P.bins[k].2⟩] := by
                rw [List.take_succ_eq_append_getElem (by unfold loadsN; rw [List.length_map]; exact hkl)]
                unfold loadsN; rw [List.getElem_map]
              have HFK := Lib.hid hfk
              obtain ⟨hxo, hok7, hll⟩ := OK.out.binAt (List.getElem_mem hkl)
              have b1 : (0 : Int) ≤ (k : Int) := by omega
              have b2 : (k : Int) < (P.bins.length : Int) := by omega
              generalize P.bins[k].1 = x at *
              generalize P.bins[k].2 = L at *
              have hbc := Node.binC OK.out x hxo.1 wr (HN6.out.below HBq.out)
              unfold BinPost at hbc
              rw [hbk] at hbc
              have HBC := Lib.hid hbc
              have HOK7 := Lib.hid hok7
              clear hcell hrk hbk hfk hok7 hbc
              go_wp2_with fail
              refine HBC.out.mono ?_
              rintro e w6 ⟨b2, mb2, rfl, hob, _, _, hbw6⟩
              have HB6 := Lib.hid (HBq.out.trans (hbw6.mono HBq.out.size))
              have HQ6 := Lib.hid (HQ.out.below hbw6)
              have hg6 : g < w6.heap.size := Nat.lt_of_lt_of_le hg HB6.out.size
              have F0 := Lib.hid ((HB6.out.cell (p := ⟨g, o + k * 2, none⟩) hg).trans i0')
              have F1 := Lib.hid ((HB6.out.cell (p := ⟨g, o + k * 2 + 1, none⟩) hg).trans i1')
              clear hbw6 HBC e0 e1 i0' i1'
              go_wp2
              have hS0 : Below w6.heap.size w6 w6.drew := (Below.refl _ _).drew
              refine region_S (fun w' => Below w6.heap.size w6 w') 9 (by kernel_rfl) (by kernel_rfl) ?_
              refine take_S 0 rfl (by kernel_rfl) (by kernel_rfl) hS0 (fun w' hS => by go_simp; rfl) ?_
              refine take_S 1 rfl (by kernel_rfl) (by kernel_rfl) hS0 (fun w' hS => by go_simp; rfl) ?_
              refine take_S 2 rfl (by kernel_rfl) (by kernel_rfl) hS0 (fun w' hS => by go_simp; rfl) ?_
              refine take_S 3 rfl (by kernel_rfl) (by kernel_rfl) hS0 (fun w' hS => by go_simp; rfl) ?_
              refine take_S 4 rfl (by kernel_rfl) (by kernel_rfl) hS0 (fun w' hS => by have A0 := (hS.cell (p := ⟨g, o + k * 2, none⟩) hg6).trans F0.out; have A1 := (hS.cell (p := ⟨g, o + k * 2 + 1, none⟩) hg6).trans F1.out; go_simp; rfl) ?_
              refine take_S 5 rfl (by kernel_rfl) (by kernel_rfl) hS0 (fun w' hS => by go_simp; rfl) ?_
              refine carry_S 6 rfl (by kernel_rfl) (by decide) (by kernel_rfl) (fun K hK => ?_)
              go_simp
              refine (BnAll_any b2 mb2 L 7500 HOK7.out (by omega) w6.drew (hob.below hS0)).mono ?_
              rintro e w8 ⟨v7, rfl, hown7, hbw8⟩
              obtain ⟨A7, c7, hv7⟩ := own_formI hown7
              subst hv7
              have hS3 : Below w6.heap.size w6 w8 := hS0.trans (hbw8.mono hS0.size)
              refine hK _ _ hS3 ?_
              clear hK K
              try simp only [Act.put, List.getElem_toArray, List.getElem_cons_succ, List.getElem_cons_zero, List.setIfInBounds_toArray, List.set_cons_zero, List.set_cons_succ]
              refine take_S 7 rfl (by kernel_rfl) (by kernel_rfl) hS3 (fun w' hS => by go_simp; rfl) ?_
              refine carry_S 8 rfl (by kernel_rfl) (by decide) (by kernel_rfl) (fun K hK => ?_)
              go_simp
              have haw : Below w8.heap.size w8 (w8.alloc (.cells #[.int .u32 (x.1 : Int), .int .i64 x.2, .slice A7 L.length c7] 72)) := (Below.refl _ _).alloc (Nat.le_refl _) _
              have hS4 : Below w6.heap.size w6 (w8.alloc (.cells #[.int .u32 (x.1 : Int), .int .i64 x.2, .slice A7 L.length c7] 72)) := hS3.trans (haw.mono hS3.size)
              refine hK _ _ hS4 (forced_S (by kernel_rfl) ?_)
              clear hK K
              try simp only [Act.put, List.getElem_toArray, List.getElem_cons_succ, List.getElem_cons_zero, List.setIfInBounds_toArray, List.set_cons_zero, List.set_cons_succ]
              try simp only [Act.put, List.getElem_toArray, List.getElem_cons_succ, List.getElem_cons_zero, List.setIfInBounds_toArray, List.set_cons_zero, List.set_cons_succ]
              simp only [List.drop_succ_cons, List.drop_zero]
              have HBA := Lib.hid (HB6.out.trans (hS4.mono HB6.out.size))
              obtain ⟨E, hE, ho6, hex6, hpw⟩ := HQ6.out
              have ho := own_belowI ho6 hS4
              have hex : ∀ z ∈ E, (ldoK w5.heap.size).rd (w8.alloc (.cells #[.int .u32 (x.1 : Int), .int .i64 x.2, .slice A7 L.length c7] 72)) (w8.alloc (.cells #[.int .u32 (x.1 : Int), .int .i64 x.2, .slice A7 L.length c7] 72)).heap.size z.1 z.2 ∧ ∀ g, (Value.slice A8 k c8).ownBlock = some g → 0 < (ldoK w5.heap.size).m z.1 → z.2.ownBlock ≠ some g := fun z hz => ⟨(ldoK w5.heap.size).more ((ldoK w5.heap.size).keep (hex6 z hz).1 hS4 (Nat.le_refl _)) hS4.size, (hex6 z hz).2⟩
              have hEl : E.length = k := by rw [← hlk, ← hE, List.length_map]
              have hya : (ldoK w5.heap.size).rd (w8.alloc (.cells #[.int .u32 (x.1 : Int), .int .i64 x.2, .slice A7 L.length c7] 72)) (w8.alloc (.cells #[.int .u32 (x.1 : Int), .int .i64 x.2, .slice A7 L.length c7] 72)).heap.size ⟨x, L⟩ (.slice A7 L.length c7) := by
                have h1 := own_lower hown7 (show w5.heap.size ≤ w6.heap.size from HB6.out.size)
                refine ⟨own_belowI h1 haw, fun q hq => ?_⟩
                have h2 := own_ltN h1 hq
                have h3 := haw.size
                exact ⟨by omega, by omega⟩
              have HFAR : Hid (∀ q, (Value.slice A8 k c8).ownBlock = some q → 0 < (ldoK w5.heap.size).m ⟨x, L⟩ → (Value.slice A7 L.length c7).ownBlock ≠ some q) := Lib.hid (fun q hq _ e => by
                have h1 := HQ6.out.ow.ltX hq
                have h2 := own_ge hown7 e
                simp only [World.drew] at h2
                omega)
              have HLO : Hid (∀ q, (Value.slice A7 L.length c7).ownBlock = some q → w6.heap.size ≤ q) := Lib.hid (fun q hq => own_ge hown7 hq)
              have HHI : Hid (∀ z ∈ E, ∀ q, z.2.ownBlock = some q → q < w6.heap.size) := Lib.hid (fun z hz q hq => ((hex6 z hz).1.2 q hq).1)
              have hok := ho
              rw [hEl] at hok
              have hok2 : (w8.alloc (.cells #[.int .u32 (x.1 : Int), .int .i64 x.2, .slice A7 L.length c7] 72)).ownsRow w5.heap.size 72 3 (.slice A8 k c8) k ((ldoK w5.heap.size).row E) := hok
              have HOK2 := Lib.hid hok2
              have HNE := Lib.hid (cells_new3 w8 (.int .u32 (x.1 : Int)) (.int .i64 x.2) (.slice A7 L.length c7) 72)
              have HE := Lib.hid hE
              have HHO := Lib.hid ho
              have HEX := Lib.hid hex
              have HPW := Lib.hid hpw
              have HYA := Lib.hid hya
              have HEL := Lib.hid hEl
              have HONE := Lib.hid ((ldoK w5.heap.size).one (a := ⟨x, L⟩) hya)
              clear haw hE ho hex hpw ho6 hex6 hya hok hok2 hEl hS0 hS3 hS4 hown7 hob hbw8
              go_wp2_with (first | (at_builtin; go_loud (refine wpList_append_own_at _ rfl (.tmp 104) (.tmp 112) 67 rfl w5.heap.size 72 i1 (.agg #[.int .u32 0, .int .i64 0, .slice none 0 0]) 3 40 Tryz.underlying67 hj hy0 hy1 hy2 rfl (by decide) (.slice A8 k c8) k ((ldoK w5.heap.size).row E) rfl HOK2.out ⟨w8.heap.size, 0, none⟩ 1 1 [.int .u32 (x.1 : Int), .int .i64 x.2, .slice A7 L.length c7] rfl rfl HNE.out HONE.out (by unfold maxLen; omega) (by omega) HBA.out.size ?_; intro v9 w9 hown9 hg9 _ hat9)) | fail)
              have HO9 := Lib.hid (OwXP.snoc HE.out HHO.out HEX.out HPW.out (a := ⟨x, L⟩) HYA.out HFAR.out HHI.out HLO.out (by rw [HEL.out]; exact hown9) hg9 hat9)
              have HB9 := Lib.hid (HBA.out.grown hg9 HBA.out.size (fun q hq => own_ge HHO.out hq))
              rw [← HFK.out] at HO9
              clear hown9 hg9 hat9
              go_wp2
              go_roundg (P.bins.length - (k + 1))
              case measure => omega
              case rel => exact ⟨k + 1, by go_num, hkl, rfl, HO9, HB9⟩
            · obtain rfl : k = P.bins.length := by omega
              have hle : (loadsN P).take P.bins.length = loadsN P := List.take_of_length_le (by unfold loadsN; rw [List.length_map]; exact Nat.le_refl _)
              have hll : (loadsN P).length = P.bins.length := by unfold loadsN; rw [List.length_map]
              rw [hle] at HQ
              have HFR := Lib.hid (HO5.out.keep HBq.out (Nat.le_refl _))
              have HCK := Lib.hid (ScCheck_any a (.slice A3 P.files.length c3) (.slice A8 P.bins.length c8) (filesN P) (loadsN P) (by omega) OK.out.rcpB (by omega) OK.out.loadLen OK.out.loadW wr (HFR.out.more HBq.out.size) HQ.out.ow.lso ((HS.out.below HBw.out).someS [1, 2, 3, 4, 6, 7, 8, 10] (by decide)))
              rw [OK.out.check] at HCK
              unfold ScPost at HCK
              clear hle
              go_wp2_with fail
              refine HCK.out.mono ?_
              rintro e w9 ⟨x, rfl, hev, hb9⟩
              obtain ⟨rfl, _⟩ := hev.nil rfl
              have HB9 := Lib.hid (HBw.out.trans (hb9.mono HBw.out.size))
              have HB95 := Lib.hid (HBq.out.trans (hb9.mono HBq.out.size))
              have HQ9 := Lib.hid (HQ.out.below hb9)
              have HFR9 := Lib.hid (HO5.out.keep HB95.out (Nat.le_refl _))
              clear hev hb9 HCK HQ HFR HBq HBw
              by_cases hn : at_ < 0
              · go_wp2
                go_ret
                exact ⟨rfl, HB9.out⟩
              · obtain ⟨i, rfl⟩ : ∃ i : Nat, at_ = (i : Int) := ⟨at_.toNat, by omega⟩
                by_cases hge : P.bins.length ≤ i
                · have hgi : (i : Int) ≥ (P.bins.length : Int) := by omega
                  go_wp2
                  go_ret
                  exact ⟨rfl, HB9.out⟩
                · have hgi : ¬ (i : Int) ≥ (P.bins.length : Int) := by omega
                  have hib : i < P.bins.length := by omega
                  have hil : i < (loadsN P).length := by omega
                  have hii : (0 : Int) ≤ (i : Int) := by omega
                  have hij : (i : Int) < (P.bins.length : Int) := by omega
                  have hle : (loadsN P)[i] = ⟨P.bins[i].1, P.bins[i].2⟩ := List.getElem_map (fun q : Idn × HldL => (⟨q.1, q.2⟩ : Load))
                  cases hL : P.bins[i].2 with
                  | nil =>
                    obtain ⟨A9, c9, hv9, _, hx9⟩ := HQ9.out.ow.form
                    obtain ⟨g9, hA9, _, hg9, hcell9⟩ := hx9 (by omega)
                    obtain ⟨sl, hsl, hcs⟩ := hcell9 i hil
                    rw [hll] at hv9
                    injection hv9 with hv1 _ hv3
                    subst hv1; subst hv3; subst hA9
                    have c2 := hcs 2 sl (by show (2 : Nat) < 3; decide) rfl
                    rw [show (ldoK w5.heap.size).n = 3 from rfl] at c2
                    obtain ⟨S9, s9, hs9⟩ := own_formI hsl.1
                    have h0 : (loadsN P)[i].l.length = 0 := by rw [hle, hL]; rfl
                    rw [h0] at hs9
                    subst hs9
                    clear hcs hsl hcell9 hx9 hle hL
                    go_wp2
                    go_ret
                    exact ⟨rfl, HB9.out⟩
                  | cons o r =>
                    have hlc : (loadsN P)[i].l = o :: r := by rw [hle, hL]
                    obtain ⟨A9, c9, g0, g, c0, hv9, hA9, hg0, hg0l, hgb, hgl, hne, q0, hcap, q1, q2, q3⟩ := HQ9.out.first hil hlc
                    rw [hll] at hv9
                    injection hv9 with hv1 _ hv3
                    subst hv1; subst hv3; subst hA9
                    have hlen1 : (loadsN P)[i].l.length = r.length + 1 := by rw [hlc]; rfl
                    rw [hlen1] at q0 hcap
                    have hmore := OK.out.more hib hL
                    rw [hle] at q3
                    simp only at q3
                    have hbin := (OK.out.binAt (List.getElem_mem hib)).2.1
                    rw [hL] at hbin
                    have hou := (hbin.all o List.mem_cons_self).uses
                    have hoW := hbin.all o List.mem_cons_self
                    have b9 : ¬ ((r.length : Int) + 1 = 0) := by omega
                    have b10 : (((r.length : Int) + 1) == 0) = false := by rw [beq_eq_false_iff_ne]; omega
                    have b11 : (0 : Int) < (r.length : Int) + 1 := by omega
                    have hbs : Below w5.heap.size w9 (w9.setCell ⟨g, 2, none⟩ (.int .i64 (o.uses + 1))) := (Below.refl _ _).setCell hgb _
                    have HBS := Lib.hid (HB9.out.trans (hbs.mono HB5.out.size))
                    have hzs : (w9.setCell ⟨g, 2, none⟩ (.int .i64 (o.uses + 1))).heap.size = w9.heap.size := by simp [World.setCell]
                    have HLW : Hid (∀ y ∈ (loadsN P).set i ⟨P.bins[i].1, ⟨o.id, o.uses + 1, o.text⟩ :: r⟩, y.l.length ≤ 1000000 ∧ ∀ z ∈ y.l, HldW z ∧ z.text.length ≤ 1000000000) := Lib.hid (fun y hy => by
                      rcases List.mem_or_eq_of_mem_set hy with hy | rfl
                      · exact ⟨OK.out.loadLen y hy, OK.out.loadW y hy⟩
                      · have h1 := OK.out.loadLen _ (List.getElem_mem hil)
                        have h2 := OK.out.loadW _ (List.getElem_mem hil)
                        rw [hlc] at h1 h2
                        refine ⟨h1, fun z hz => ?_⟩
                        rcases List.mem_cons.1 hz with rfl | hz
                        · have h3 := (h2 o List.mem_cons_self)
                          exact ⟨⟨h3.1.1, by show _ ≤ o.uses + 1; omega, by show o.uses + 1 ≤ _; omega⟩, h3.2⟩
                        · exact h2 z (List.mem_cons_of_mem _ hz))
                    have HCK2 := Lib.hid (ScCheck_any a (.slice A3 P.files.length c3) (.slice (some ⟨g0, 0, none⟩) P.bins.length c8) (filesN P) ((loadsN P).set i ⟨P.bins[i].1, ⟨o.id, o.uses + 1, o.text⟩ :: r⟩) (by omega) OK.out.rcpB (by rw [List.length_set]; omega) (fun y hy => (HLW.out y hy).1) (fun y hy => (HLW.out y hy).2) (w9.setCell ⟨g, 2, none⟩ (.int .i64 (o.uses + 1))) ((HFR9.out.keep hbs (Nat.le_refl _)).more (by rw [hzs]; exact HB95.out.size)) (by rw [hzs]; exact q3) ((HS.out.below HBS.out).someS [1, 2, 3, 4, 6, 7, 8, 10] (by decide)))
                    rw [hmore] at HCK2
                    unfold ScPost at HCK2
                    have u1 : -9223372036854775808 ≤ o.uses + 1 := by omega
                    have u2 : o.uses + 1 ≤ 9223372036854775807 := by omega
                    clear hmore q3 hbin hou hoW hbs hle hL hlc hlen1
                    go_wp2_with fail
                    refine HCK2.out.mono ?_
                    rintro e w10 ⟨x, rfl, hev, hb10⟩
                    have HB10 := Lib.hid (HBS.out.trans (hb10.mono HBS.out.size))
                    have HF := Lib.hid (faulted2_any a x 11 (i : Int) 11 (i : Int) w10 (HS.out.below HB10.out) (hev.toErrV (HS.out.below HB10.out)))
                    have hfb : faultedB 11 (i : Int) 11 (i : Int) = true := by unfold faultedB; simp
                    rw [hfb] at HF
                    clear hev hb10 HCK2 hfb
                    go_wp2_with fail
                    refine HF.out.mono ?_
                    rintro e w11 ⟨rfl, hb11⟩
                    have HB11 := Lib.hid (HB10.out.trans (hb11.mono HB10.out.size))
                    clear hb11
                    go_wp2
                    go_ret
                    exact ⟨rfl, HB11.out⟩
theorem ScrubRight_walk (a : Nat → Addr) (v : Value) (l : List ActN) (at_ : Int) (hat1 : -9223372036854775808 ≤ at_) (hat2 : at_ ≤ 9223372036854775807) (hl : l.length ≤ maxLen) (hz : ∀ x ∈ l, x.kind.length ≤ maxLen ∧ x.nm.length ≤ maxLen ∧ x.s.length ≤ maxLen) (w : World) (hv : ActNRd w w.heap.size v l) (h : Sents a w) :
    Calls Tryz.prog 7 #[v, .int .i64 at_] w fun e w' => e = .returned (.bool true) ∧ Below w.heap.size w w' := by
  rcases longNs_cases l 60 with h0 | h1
  · exact ScrubRight_main a v l hl hz at_ hat1 hat2 h0 w hv h
  · exact ScrubRight_long a v l hl hz at_ h1 w hv h
end Go.Proofs.YtpanoplcamdnkaaGreatDoor

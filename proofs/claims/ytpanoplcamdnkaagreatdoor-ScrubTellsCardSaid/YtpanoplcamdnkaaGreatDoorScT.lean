/- Walk of the law ScrubTells. Condition: the sentinels lie as named. -/
import Derived.Test.YtpanoplcamdnkaaGreatDoorScS
import Derived.Test.YtpanoplcamdnkaaGreatDoorRsc1
import Derived.Test.YtpanoplcamdnkaaGreatDoorLng1
import Derived.Test.YtpanoplcamdnkaaGreatDoorOpn2
namespace Go.Proofs.YtpanoplcamdnkaaGreatDoor
open Go.RowKit Go.Lib Go.Maps Go.WideMaps

theorem longR_zeroT {r : Rcp} (h : longR r = 0) : r.name.length ≤ 30 ∧ r.ids.length ≤ 251 := by
  unfold longR at h
  by_cases h1 : 30 < r.name.length ∨ (60 < r.ids.length ∧ r.ids.length ≠ 251)
  · rw [if_pos h1] at h; omega
  · rw [not_or] at h1; omega
theorem longR_oneT {r : Rcp} (h : ¬ longR r = 0) : longR r = 1 := by
  unfold longR at h ⊢
  by_cases h1 : 30 < r.name.length ∨ (60 < r.ids.length ∧ r.ids.length ≠ 251)
  · rw [if_pos h1]
  · rw [if_neg h1] at h; exact absurd rfl h
theorem longZ_zeroT {L : HldL} (h : longZ L = 0) : L.length ≤ 251 ∧ ∀ x ∈ L, x.text.length ≤ 100 := by
  unfold longZ at h
  by_cases hb : longHB L = true
  · rw [if_pos hb] at h; cases h
  · rw [Bool.not_eq_true] at hb
    unfold longHB at hb
    rw [Bool.or_eq_false_iff, Bool.and_eq_false_iff, decide_eq_false_iff_not] at hb
    refine ⟨?_, fun x hx => ?_⟩
    · rcases hb.1 with h1 | h1
      · omega
      · simp at h1; omega
    · have := List.any_eq_false.1 hb.2 x hx
      simp at this
      omega
theorem longZ_oneT {L : HldL} (h : ¬ longZ L = 0) : longZ L = 1 := by
  unfold longZ at h ⊢
  split at h <;> simp_all
theorem RcpO.bT {r : Rcp} (h : RcpO r) (hl : longR r = 0) : RcpB r := by
  have := longR_zeroT hl
  exact ⟨by omega, h.l0, h.l1, h.p, by omega, h.i⟩
theorem ScrubTells_long (a : Nat → Addr) (vf vb : Value) (fs : List Rcp) (ls : List Load) (hlong : (12 < fs.length ∧ fs.length ≠ 31) ∨ 6 < ls.length) (w : World) (hf : RsRd w w.heap.size vf fs) (hl : LdRd w w.heap.size vb ls) (h : Sents a w) :
    Calls Tryz.prog 5 #[vf, vb] w fun e w' => e = .returned (.bool true) ∧ Below w.heap.size w w' := by
  have HB := Lib.hid (scrubbed_any a w h)
  obtain ⟨FA, fc, rfl, _⟩ := hf
  obtain ⟨A, c, rfl, _⟩ := hl
  clear h
  by_cases h1 : 12 < fs.length ∧ fs.length ≠ 31
  · have a1 : (fs.length : Int) > 12 := by omega
    have a2 : ((fs.length : Int) != 31) = true := by rw [bne_iff_ne]; omega
    have a3 : ((fs.length : Int) == 31) = false := by rw [beq_eq_false_iff_ne]; omega
    clear hlong h1
    go_enter Tryz.func5, Tryz.ntmps5
    go_wp2_with fail
    refine HB.out.mono ?_
    rintro e w1 ⟨rfl, hb1⟩
    have HB1 := Lib.hid hb1
    clear hb1
    go_wp2
    go_ret
    exact ⟨rfl, HB1.out⟩
  · have h6 : 6 < ls.length := hlong.resolve_left h1
    have a4 : (ls.length : Int) > 6 := by omega
    by_cases h12 : 12 < fs.length
    · have a1 : (fs.length : Int) > 12 := by omega
      have a0 : fs.length = 31 := by omega
      have a2 : ((fs.length : Int) != 31) = false := by rw [bne_eq_false_iff_eq]; omega
      have a3 : ((fs.length : Int) == 31) = true := by rw [beq_iff_eq]; omega
      clear hlong h1 h12 h6 a0
      go_enter Tryz.func5, Tryz.ntmps5
      go_wp2_with fail
      refine HB.out.mono ?_
      rintro e w1 ⟨rfl, hb1⟩
      have HB1 := Lib.hid hb1
      clear hb1
      go_wp2
      go_ret
      exact ⟨rfl, HB1.out⟩
    · have a1 : ¬ (fs.length : Int) > 12 := by omega
      clear hlong h1 h12 h6
      go_enter Tryz.func5, Tryz.ntmps5
      go_wp2_with fail
      refine HB.out.mono ?_
      rintro e w1 ⟨rfl, hb1⟩
      have HB1 := Lib.hid hb1
      clear hb1
      go_wp2
      go_ret
      exact ⟨rfl, HB1.out⟩
set_option maxRecDepth 100000 in
set_option maxHeartbeats 2000000 in
theorem ScrubTells_few (a : Nat → Addr) (vf vb : Value) (fs : List Rcp) (ls : List Load) (hfo : ∀ r ∈ fs, RcpO r) (hlo : ∀ y ∈ ls, LdO y) (h12 : fs.length ≤ 12) (h6 : ls.length ≤ 6) (w : World) (hf : RsRd w w.heap.size vf fs) (hl : LdRd w w.heap.size vb ls) (h : Sents a w) :
    Calls Tryz.prog 5 #[vf, vb] w fun e w' => e = .returned (.bool true) ∧ Below w.heap.size w w' := by
  obtain ⟨i0, hi, hz0, hz1, hz2⟩ := info_parts info_rcp
  obtain ⟨i1, hj, hy0, hy1, hy2⟩ := info_parts info_load
  have HB := Lib.hid (scrubbed_any a w h)
  have HS := Lib.hid h
  have HFO := Lib.hid hfo
  have HLO := Lib.hid hlo
  obtain ⟨FA, fc, hvf, _, hxf⟩ := id hf
  obtain ⟨A, c, hvl, _, hxl⟩ := id hl
  subst hvf
  subst hvl
  have HF := Lib.hid hf
  have HLD := Lib.hid hl
  have HXF := Lib.hid hxf
  have HXL := Lib.hid hxl
  have a4 : ¬ (ls.length : Int) > 6 := by omega
  have a1 : ¬ (fs.length : Int) > 12 := by omega
  have h31 : fs.length ≤ 31 := by omega
  clear h12
  clear h hfo hlo hf hl hxf hxl
  go_enter Tryz.func5, Tryz.ntmps5
  go_wp2_with fail
  refine HB.out.mono ?_
  rintro e w1 ⟨rfl, hb1⟩
  have HB1 := Lib.hid hb1
  clear hb1 HB
  go_wp2
  go_loopg [6, 7] fs.length (fun gh v6 v7 wr => ∃ k : Nat, v7 = .int .i64 k ∧ k ≤ fs.length ∧ gh = fs.length - k ∧ Hid (OwX rcK wr w1.heap.size 65 v6 (fs.take k)) ∧ Hid (∀ q ∈ fs.take k, longR q = 0) ∧ Hid (Below w1.heap.size w1 wr))
  case atStart => exact ⟨0, rfl, Nat.zero_le _, rfl, Lib.hid (OwX.nil _ _ _), Lib.hid (fun q hq => by simp at hq), Lib.hid (Below.refl _ _)⟩
  case round =>
    obtain ⟨k, rfl, hk, hgm, HO, HLR, HBr⟩ := hrel
    have hlk : (fs.take k).length = k := by rw [List.length_take]; omega
    obtain ⟨A3, c3, hv3⟩ := HO.out.slice
    rw [hlk] at hv3
    subst hv3
    have HBw := Lib.hid (HB1.out.trans (HBr.out.mono HB1.out.size))
    by_cases hkl : k < fs.length
    · obtain ⟨g, o, rfl, hg, hx⟩ := HXF.out (by omega)
      obtain ⟨sl, hsl, x0, x1, x2, x3⟩ := hx k hkl
      obtain ⟨SA, sc, hsv, _⟩ := hsl.form
      subst hsv
      have y0 := (HBw.out.cell (p := ⟨g, o + k * 4, none⟩) hg).trans x0
      have y1 := (HBw.out.cell (p := ⟨g, o + k * 4 + 1, none⟩) hg).trans x1
      have y2 := (HBw.out.cell (p := ⟨g, o + k * 4 + 2, none⟩) hg).trans x2
      have y3 := (HBw.out.cell (p := ⟨g, o + k * 4 + 3, none⟩) hg).trans x3
      have b1 : (0 : Int) ≤ (k : Int) := by omega
      have b2 : (k : Int) < (fs.length : Int) := by omega
      have hro := HFO.out fs[k] (List.getElem_mem hkl)
      have HFK : Hid (fs.take (k + 1) = fs.take k ++ [fs[k]]) := Lib.hid (List.take_succ_eq_append_getElem hkl)
      generalize fs[k] = r at *
      have HLG := Lib.hid (LongRecipe_any (.agg #[VT r.name, .int .i64 r.len, .int .u32 (r.print : Int), .slice SA r.ids.length sc]) r hro.n hro.c wr.heap.size wr ⟨_, rfl, (hsl.keep HBw.out (Nat.le_refl _)).more HBw.out.size⟩)
      have HSL := Lib.hid hsl
      have X0 := Lib.hid x0
      have X1 := Lib.hid x1
      have X2 := Lib.hid x2
      have X3 := Lib.hid x3
      clear hx x0 x1 x2 x3 hsl
      by_cases hlr : longR r = 0
      · have hrl := longR_zeroT hlr
        have HLR2 : Hid (∀ q ∈ fs.take (k + 1), longR q = 0) := Lib.hid (fun q hq => by
          rw [HFK.out] at hq
          rcases List.mem_append.1 hq with h | h
          · exact HLR.out q h
          · rw [List.mem_singleton.1 h]; exact hlr)
        rw [hlr] at HLG
        clear hlr
        go_wp2_with fail
        refine HLG.out.mono ?_
        rintro e w3 ⟨rfl, hb3⟩
        have HB3 := Lib.hid (HBw.out.trans (hb3.mono HBw.out.size))
        have HB3r := Lib.hid (HBr.out.trans (hb3.mono HBr.out.size))
        have z0 := (HB3.out.cell (p := ⟨g, o + k * 4, none⟩) hg).trans X0.out
        have z1 := (HB3.out.cell (p := ⟨g, o + k * 4 + 1, none⟩) hg).trans X1.out
        have z2 := (HB3.out.cell (p := ⟨g, o + k * 4 + 2, none⟩) hg).trans X2.out
        have z3 := (HB3.out.cell (p := ⟨g, o + k * 4 + 3, none⟩) hg).trans X3.out
        have HO3 := Lib.hid (HO.out.below hb3)
        have HOR := Lib.hid (OwnRecipe_any (.agg #[VT r.name, .int .i64 r.len, .int .u32 (r.print : Int), .slice SA r.ids.length sc]) r (by omega) w3 ⟨_, rfl, (HSL.out.keep HB3.out (Nat.le_refl _)).more HB3.out.size⟩)
        clear hb3 HLG y0 y1 y2 y3
        go_wp2_with fail
        refine HOR.out.mono ?_
        rintro e w4 ⟨v4, rfl, ⟨sl4, rfl, hr4⟩, hb4⟩
        obtain ⟨A4, c4, hsl4⟩ : ∃ A c, sl4 = .slice A r.ids.length c := by obtain ⟨A, c, h, _⟩ := hr4; exact ⟨A, c, h⟩
        subst hsl4
        have HBq := Lib.hid (HB3r.out.trans (hb4.mono HB3r.out.size))
        have hfar : ∀ q, (Value.slice A3 k c3).ownBlock = some q → 0 < r.ids.length → (Value.slice A4 r.ids.length c4).ownBlock ≠ some q := fun q hq h0 e => by
          have := HO3.out.ltX hq
          obtain ⟨A, c, he, hc, hx⟩ := hr4
          obtain ⟨b, o, hA, hlo, _⟩ := hx h0
          injection he with e1 _ _
          rw [e1, hA] at e
          have : b = q := by simpa [Value.ownBlock] using e
          omega
        have HFAR := Lib.hid hfar
        have HR4 := Lib.hid hr4.rd
        have HO4 := Lib.hid (HO3.out.below hb4)
        clear hr4 hb4 hfar HOR HO z0 z1 z2 z3
        have haw : Below w4.heap.size w4 (w4.alloc (.cells #[VT r.name, .int .i64 r.len, .int .u32 (r.print : Int), .slice A4 r.ids.length c4] 65)) := (Below.refl _ _).alloc (Nat.le_refl _) _
        have haw2 : Below w4.heap.size w4 ((w4.alloc (.cells #[VT r.name, .int .i64 r.len, .int .u32 (r.print : Int), .slice A4 r.ids.length c4] 65)).alloc (.cells #[VT r.name, .int .i64 r.len, .int .u32 (r.print : Int), .slice A4 r.ids.length c4] 65)) := haw.alloc haw.size _
        obtain ⟨z0, z1, z2, z3, _⟩ := Box4.mk' w4 (VT r.name) (.int .i64 r.len) (.int .u32 (r.print : Int)) (.slice A4 r.ids.length c4) 65
        have HX4 := Lib.hid (HO4.out.below haw2)
        obtain ⟨E, hE, ho, hex⟩ := HX4.out
        have hEl : E.length = k := by rw [← hlk, ← hE, List.length_map]
        have hya : RdI ((w4.alloc (.cells #[VT r.name, .int .i64 r.len, .int .u32 (r.print : Int), .slice A4 r.ids.length c4] 65)).alloc (.cells #[VT r.name, .int .i64 r.len, .int .u32 (r.print : Int), .slice A4 r.ids.length c4] 65)) ((w4.alloc (.cells #[VT r.name, .int .i64 r.len, .int .u32 (r.print : Int), .slice A4 r.ids.length c4] 65)).alloc (.cells #[VT r.name, .int .i64 r.len, .int .u32 (r.print : Int), .slice A4 r.ids.length c4] 65)).heap.size (.slice A4 r.ids.length c4) r.ids := (HR4.out.keep haw2 (Nat.le_refl _)).more haw2.size
        have hok := ho
        rw [hEl] at hok
        have hok2 : ((w4.alloc (.cells #[VT r.name, .int .i64 r.len, .int .u32 (r.print : Int), .slice A4 r.ids.length c4] 65)).alloc (.cells #[VT r.name, .int .i64 r.len, .int .u32 (r.print : Int), .slice A4 r.ids.length c4] 65)).ownsRow w1.heap.size 65 4 (.slice A3 k c3) k (rcK.row E) := hok
        have HOK2 := Lib.hid hok2
        have HNE := Lib.hid (cells_new4 (w4.alloc (.cells #[VT r.name, .int .i64 r.len, .int .u32 (r.print : Int), .slice A4 r.ids.length c4] 65)) (VT r.name) (.int .i64 r.len) (.int .u32 (r.print : Int)) (.slice A4 r.ids.length c4) 65)
        have HBA2 := Lib.hid (HBq.out.trans (haw2.mono HBq.out.size))
        have HE := Lib.hid hE
        have HHO := Lib.hid ho
        have HEX := Lib.hid hex
        have HYA := Lib.hid hya
        have HEL := Lib.hid hEl
        have HONE := Lib.hid (rcK.one (a := r) hya)
        have hwa : (w4.alloc (.cells #[VT r.name, .int .i64 r.len, .int .u32 (r.print : Int), .slice A4 r.ids.length c4] 65)).heap.size = w4.heap.size + 1 := by simp
        clear haw haw2 hE ho hex hya hok hok2 hEl
        go_wp2_with (first | (at_builtin; refine wpList_append_own_at _ rfl (.tmp 47) (.tmp 49) 61 rfl w1.heap.size 65 i0 (.agg #[.string ByteArray.empty, .int .i64 0, .int .u32 0, .slice none 0 0]) 4 56 Tryz.underlying61 hi hz0 hz1 hz2 rfl (by decide) (.slice A3 k c3) k (rcK.row E) rfl HOK2.out ⟨w4.heap.size + 1, 0, none⟩ 1 1 [VT r.name, .int .i64 r.len, .int .u32 (r.print : Int), .slice A4 r.ids.length c4] rfl rfl (by rw [← hwa]; exact HNE.out) HONE.out (by unfold maxLen; omega) (by omega) HBA2.out.size ?_; intro v7 w7 hown7 hg7 _ hat7) | fail)
        have HO7 := Lib.hid (OwX.snoc HE.out HHO.out HEX.out (a := r) HYA.out HFAR.out (by rw [HEL.out]; exact hown7) hg7 hat7)
        have HB7 := Lib.hid (HBA2.out.grown hg7 HBA2.out.size (fun q hq => own_ge HHO.out hq))
        rw [← HFK.out] at HO7
        clear hown7 hg7 hat7
        go_wp2
        go_roundg (fs.length - (k + 1))
        case measure => omega
        case rel => exact ⟨k + 1, by go_num, hkl, rfl, HO7, HLR2, HB7⟩
      · rw [longR_oneT hlr] at HLG
        clear hlr
        go_wp2_with fail
        refine HLG.out.mono ?_
        rintro e w3 ⟨rfl, hb3⟩
        have HB3 := Lib.hid (HBw.out.trans (hb3.mono HBw.out.size))
        clear hb3
        go_wp2
        go_ret
        exact ⟨rfl, HB3.out⟩
    · obtain rfl : k = fs.length := by omega
      rw [List.take_length] at HO HLR
      have HFB : Hid (∀ q ∈ fs, RcpB q) := Lib.hid (fun q hq => (HFO.out q hq).bT (HLR.out q hq))
      obtain ⟨wo, hwo⟩ : ∃ x, x = wr := ⟨_, rfl⟩
      subst hwo
      clear hk hgm
      go_wp2
      go_loopg [9, 10] ls.length (fun gh v9 v10 wr => ∃ k : Nat, v10 = .int .i64 k ∧ k ≤ ls.length ∧ gh = ls.length - k ∧ Hid (OwX ldK wr wo.heap.size 72 v9 (ls.take k)) ∧ Hid (∀ q ∈ ls.take k, longZ q.l = 0) ∧ Hid (Below wo.heap.size wo wr))
      case atStart => exact ⟨0, rfl, Nat.zero_le _, rfl, Lib.hid (OwX.nil _ _ _), Lib.hid (fun q hq => by simp at hq), Lib.hid (Below.refl _ _)⟩
      case round =>
        obtain ⟨k, rfl, hk, hgm, HQ, HLZ, HBq⟩ := hrel
        have hlk2 : (ls.take k).length = k := by rw [List.length_take]; omega
        obtain ⟨A8, c8, hv8⟩ := HQ.out.slice
        rw [hlk2] at hv8
        subst hv8
        have HBW := Lib.hid (HBw.out.trans (HBq.out.mono HBw.out.size))
        by_cases hkl : k < ls.length
        · obtain ⟨g, o, rfl, hg, hx⟩ := HXL.out (by omega)
          obtain ⟨sl, hsl, x0, x1, x2⟩ := hx k hkl
          obtain ⟨SA, sc, hsv, _⟩ := hsl.form
          subst hsv
          have b1 : (0 : Int) ≤ (k : Int) := by omega
          have b2 : (k : Int) < (ls.length : Int) := by omega
          have hlo := HLO.out ls[k] (List.getElem_mem hkl)
          have HFK : Hid (ls.take (k + 1) = ls.take k ++ [ls[k]]) := Lib.hid (List.take_succ_eq_append_getElem hkl)
          generalize ls[k] = y at *
          have hgr : g < wr.heap.size := Nat.lt_of_lt_of_le hg HBW.out.size
          have y2 := (HBW.out.cell (p := ⟨g, o + k * 3 + 2, none⟩) hg).trans x2
          have Y0 := Lib.hid ((HBW.out.cell (p := ⟨g, o + k * 3, none⟩) hg).trans x0)
          have Y1 := Lib.hid ((HBW.out.cell (p := ⟨g, o + k * 3 + 1, none⟩) hg).trans x1)
          have Y2 := Lib.hid y2
          have HLH := Lib.hid (LongHelds_any (.slice SA y.l.length sc) y.l hlo.len (fun x hx => (hlo.all x hx).2) wr.heap.size wr ((hsl.keep HBW.out (Nat.le_refl _)).more HBW.out.size))
          have HSL := Lib.hid hsl
          clear hx x0 x1 x2 hsl
          by_cases hlz : longZ y.l = 0
          · have hzl := longZ_zeroT hlz
            have HLZ2 : Hid (∀ q ∈ ls.take (k + 1), longZ q.l = 0) := Lib.hid (fun q hq => by
              rw [HFK.out] at hq
              rcases List.mem_append.1 hq with h | h
              · exact HLZ.out q h
              · rw [List.mem_singleton.1 h]; exact hlz)
            rw [hlz] at HLH
            obtain ⟨hzl1, _⟩ := hzl
            clear hlz
            go_wp2_with fail
            refine HLH.out.mono ?_
            rintro e w3 ⟨rfl, hw3⟩
            subst hw3
            clear HLH y2
            go_wp2
            have hS0 : Below wr.heap.size wr wr.drew := (Below.refl _ _).drew
            refine region_S (fun w' => Below wr.heap.size wr w') 14 (by kernel_rfl) (by kernel_rfl) ?_
            refine take_S 0 rfl (by kernel_rfl) (by kernel_rfl) hS0 (fun w' hS => by go_simp; rfl) ?_
            refine take_S 1 rfl (by kernel_rfl) (by kernel_rfl) hS0 (fun w' hS => by go_simp; rfl) ?_
            refine take_S 2 rfl (by kernel_rfl) (by kernel_rfl) hS0 (fun w' hS => by go_simp; rfl) ?_
            refine take_S 3 rfl (by kernel_rfl) (by kernel_rfl) hS0 (fun w' hS => by go_simp; rfl) ?_
            refine take_S 4 rfl (by kernel_rfl) (by kernel_rfl) hS0 (fun w' hS => by go_simp; rfl) ?_
            refine take_S 5 rfl (by kernel_rfl) (by kernel_rfl) hS0 (fun w' hS => by have A0 := (hS.cell (p := ⟨g, o + k * 3, none⟩) hgr).trans Y0.out; have A1 := (hS.cell (p := ⟨g, o + k * 3 + 1, none⟩) hgr).trans Y1.out; go_simp; rfl) ?_
            refine take_S 6 rfl (by kernel_rfl) (by kernel_rfl) hS0 (fun w' hS => by go_simp; rfl) ?_
            refine take_S 7 rfl (by kernel_rfl) (by kernel_rfl) hS0 (fun w' hS => by go_simp; rfl) ?_
            refine take_S 8 rfl (by kernel_rfl) (by kernel_rfl) hS0 (fun w' hS => by go_simp; rfl) ?_
            refine take_S 9 rfl (by kernel_rfl) (by kernel_rfl) hS0 (fun w' hS => by go_simp; rfl) ?_
            refine take_S 10 rfl (by kernel_rfl) (by kernel_rfl) hS0 (fun w' hS => by have A2 := (hS.cell (p := ⟨g, o + k * 3 + 2, none⟩) hgr).trans Y2.out; go_simp; rfl) ?_
            refine carry_S 11 rfl (by kernel_rfl) (by decide) (by kernel_rfl) (fun K hK => ?_)
            go_simp
            refine (OwnHelds_any (.slice SA y.l.length sc) y.l (by omega) wr.drew.heap.size wr.drew ((HSL.out.keep (HBW.out.trans (hS0.mono HBW.out.size)) (Nat.le_refl _)).more (HBW.out.trans (hS0.mono HBW.out.size)).size)).mono ?_
            rintro e w8 ⟨v7, rfl, hown7, hbw8⟩
            obtain ⟨A7, c7, hv7⟩ := own_formI hown7
            subst hv7
            have hS3 : Below wr.heap.size wr w8 := hS0.trans (hbw8.mono hS0.size)
            refine hK _ _ hS3 ?_
            clear hK K
            try simp only [Act.put, List.getElem_toArray, List.getElem_cons_succ, List.getElem_cons_zero, List.setIfInBounds_toArray, List.set_cons_zero, List.set_cons_succ]
            refine take_S 12 rfl (by kernel_rfl) (by kernel_rfl) hS3 (fun w' hS => by go_simp; rfl) ?_
            refine carry_S 13 rfl (by kernel_rfl) (by decide) (by kernel_rfl) (fun K hK => ?_)
            go_simp
            have haw : Below w8.heap.size w8 (w8.alloc (.cells #[.int .u32 (y.rep.1 : Int), .int .i64 y.rep.2, .slice A7 y.l.length c7] 72)) := (Below.refl _ _).alloc (Nat.le_refl _) _
            have hS4 : Below wr.heap.size wr (w8.alloc (.cells #[.int .u32 (y.rep.1 : Int), .int .i64 y.rep.2, .slice A7 y.l.length c7] 72)) := hS3.trans (haw.mono hS3.size)
            refine hK _ _ hS4 (forced_S (by kernel_rfl) ?_)
            clear hK K
            try simp only [Act.put, List.getElem_toArray, List.getElem_cons_succ, List.getElem_cons_zero, List.setIfInBounds_toArray, List.set_cons_zero, List.set_cons_succ]
            try simp only [Act.put, List.getElem_toArray, List.getElem_cons_succ, List.getElem_cons_zero, List.setIfInBounds_toArray, List.set_cons_zero, List.set_cons_succ]
            simp only [List.drop_succ_cons, List.drop_zero]
            have HBA := Lib.hid (HBq.out.trans (hS4.mono HBq.out.size))
            have HX7 := Lib.hid (HQ.out.below hS4)
            obtain ⟨E, hE, ho, hex⟩ := HX7.out
            have hEl : E.length = k := by rw [← hlk2, ← hE, List.length_map]
            have hya : RdL (w8.alloc (.cells #[.int .u32 (y.rep.1 : Int), .int .i64 y.rep.2, .slice A7 y.l.length c7] 72)) (w8.alloc (.cells #[.int .u32 (y.rep.1 : Int), .int .i64 y.rep.2, .slice A7 y.l.length c7] 72)).heap.size (.slice A7 y.l.length c7) y.l := RdL.more (RdL.keep (RdL.own hown7) haw (Nat.le_refl _)) haw.size
            have HFAR : Hid (∀ q, (Value.slice A8 k c8).ownBlock = some q → 0 < y.l.length → (Value.slice A7 y.l.length c7).ownBlock ≠ some q) := Lib.hid (fun q hq _ e => by
              have h1 := HQ.out.ltX hq
              have h2 := own_ge hown7 e
              simp only [World.drew] at h2
              omega)
            have hok := ho
            rw [hEl] at hok
            have hok2 : (w8.alloc (.cells #[.int .u32 (y.rep.1 : Int), .int .i64 y.rep.2, .slice A7 y.l.length c7] 72)).ownsRow wo.heap.size 72 3 (.slice A8 k c8) k (ldK.row E) := hok
            have HOK2 := Lib.hid hok2
            have HNE := Lib.hid (cells_new3 w8 (.int .u32 (y.rep.1 : Int)) (.int .i64 y.rep.2) (.slice A7 y.l.length c7) 72)
            have HE := Lib.hid hE
            have HHO := Lib.hid ho
            have HEX := Lib.hid hex
            have HYA := Lib.hid hya
            have HEL := Lib.hid hEl
            have HONE := Lib.hid (ldK.one (a := y) hya)
            clear haw hE ho hex hya hok hok2 hEl hS0 hS3 hS4 hown7 hbw8
            go_wp2_with (first | (at_builtin; go_loud (refine wpList_append_own_at _ rfl (.tmp 64) (.tmp 77) 67 rfl wo.heap.size 72 i1 (.agg #[.int .u32 0, .int .i64 0, .slice none 0 0]) 3 40 Tryz.underlying67 hj hy0 hy1 hy2 rfl (by decide) (.slice A8 k c8) k (ldK.row E) rfl HOK2.out ⟨w8.heap.size, 0, none⟩ 1 1 [.int .u32 (y.rep.1 : Int), .int .i64 y.rep.2, .slice A7 y.l.length c7] rfl rfl HNE.out HONE.out (by unfold maxLen; omega) (by omega) HBA.out.size ?_; intro v9 w9 hown9 hg9 _ hat9)) | fail)
            have HO9 := Lib.hid (OwX.snoc HE.out HHO.out HEX.out (a := y) HYA.out HFAR.out (by rw [HEL.out]; exact hown9) hg9 hat9)
            have HB9 := Lib.hid (HBA.out.grown hg9 HBA.out.size (fun q hq => own_ge HHO.out hq))
            rw [← HFK.out] at HO9
            clear hown9 hg9 hat9
            go_wp2
            go_roundg (ls.length - (k + 1))
            case measure => omega
            case rel => exact ⟨k + 1, by go_num, hkl, rfl, HO9, HLZ2, HB9⟩
          · rw [longZ_oneT hlz] at HLH
            clear hlz
            go_wp2_with fail
            refine HLH.out.mono ?_
            rintro e w3 ⟨rfl, hw3⟩
            subst hw3
            clear HLH y2
            go_wp2
            go_ret
            exact ⟨rfl, HBW.out⟩
        · obtain rfl : k = ls.length := by omega
          rw [List.take_length] at HQ HLZ
          have HLL : Hid (∀ q ∈ ls, q.l.length ≤ 1000000 ∧ ∀ x ∈ q.l, HldW x ∧ x.text.length ≤ 100) := Lib.hid (fun q hq => by
            obtain ⟨h1, h2⟩ := longZ_zeroT (HLZ.out q hq)
            exact ⟨by omega, fun x hx => ⟨((HLO.out q hq).all x hx).1, h2 x hx⟩⟩)
          have HRS := Lib.hid (HO.out.below HBq.out).rs
          have HCK := Lib.hid (ScCheck_any a (.slice A3 fs.length c3) (.slice A8 ls.length c8) fs ls (by omega) HFB.out (by omega) (fun q hq => (HLL.out q hq).1) (fun q hq x hx => ⟨((HLL.out q hq).2 x hx).1, by have := ((HLL.out q hq).2 x hx).2; omega⟩) wr HRS.out HQ.out.ls ((HS.out.below HBW.out).someS [1, 2, 3, 4, 6, 7, 8, 10] (by decide)))
          unfold ScPost at HCK
          clear hk hgm
          go_wp2_with fail
          refine HCK.out.mono ?_
          rintro e w5 ⟨x, rfl, hev, hb5⟩
          have HB5 := Lib.hid (HBW.out.trans (hb5.mono HBW.out.size))
          have HEV := Lib.hid hev
          have HSF := Lib.hid (RScrubF_any (.slice FA fs.length fc) (.slice A ls.length c) fs ls (by omega) HFB.out (by omega) (fun q hq => (HLL.out q hq).1) (fun q hq x hx => by have := ((HLL.out q hq).2 x hx).2; omega) w5 ((HF.out.keep HB5.out (Nat.le_refl _)).more HB5.out.size) ((HLD.out.keep HB5.out (Nat.le_refl _)).more HB5.out.size))
          unfold SfP at HSF
          clear hev hb5 HCK
          generalize checkS fs ls = F at *
          go_wp2_with fail
          refine HSF.out.mono ?_
          rintro e w6 ⟨rfl, hb6⟩
          have HB6 := Lib.hid (HB5.out.trans (hb6.mono HB5.out.size))
          have HFA := Lib.hid (faulted2_any a x F.1 F.2 F.1 F.2 w6 (HS.out.below HB6.out) ((HEV.out.below hb6).toErrV (HS.out.below HB6.out)))
          have hfb : faultedB F.1 F.2 F.1 F.2 = true := by unfold faultedB; simp
          rw [hfb] at HFA
          clear hb6 HSF hfb
          go_wp2_with fail
          refine HFA.out.mono ?_
          rintro e w7 ⟨rfl, hb7⟩
          have HB7 := Lib.hid (HB6.out.trans (hb7.mono HB6.out.size))
          have HON := Lib.hid (ScOf_nil a w7 ((HS.out.below HB7.out).someS [2] (by decide)))
          clear hb7 HFA
          go_wp2_with fail
          refine HON.out.mono ?_
          rintro e w8 ⟨rfl, hw8⟩
          subst hw8
          have HCD := Lib.hid (coded2_any a (sval a 2) 3 3 (-1) w8 (HS.out.below HB7.out) ((EV.sent a w8 2 (by decide)).toErrV (HS.out.below HB7.out)))
          have hcb : codedB 3 3 (-1) = true := by decide
          rw [hcb] at HCD
          unfold sval at HCD ⊢
          clear HON hcb
          go_wp2_with fail
          refine HCD.out.mono ?_
          rintro e w9 ⟨rfl, hb9⟩
          have HB9 := Lib.hid (HB7.out.trans (hb9.mono HB7.out.size))
          clear hb9
          go_wp2
          go_ret
          exact ⟨rfl, HB9.out⟩
set_option maxRecDepth 100000 in
set_option maxHeartbeats 2000000 in
theorem ScrubTells_many (a : Nat → Addr) (vf vb : Value) (fs : List Rcp) (ls : List Load) (hfo : ∀ r ∈ fs, RcpO r) (hlo : ∀ y ∈ ls, LdO y) (h12 : fs.length = 31) (h6 : ls.length ≤ 6) (w : World) (hf : RsRd w w.heap.size vf fs) (hl : LdRd w w.heap.size vb ls) (h : Sents a w) :
    Calls Tryz.prog 5 #[vf, vb] w fun e w' => e = .returned (.bool true) ∧ Below w.heap.size w w' := by
  obtain ⟨i0, hi, hz0, hz1, hz2⟩ := info_parts info_rcp
  obtain ⟨i1, hj, hy0, hy1, hy2⟩ := info_parts info_load
  have HB := Lib.hid (scrubbed_any a w h)
  have HS := Lib.hid h
  have HFO := Lib.hid hfo
  have HLO := Lib.hid hlo
  obtain ⟨FA, fc, hvf, _, hxf⟩ := id hf
  obtain ⟨A, c, hvl, _, hxl⟩ := id hl
  subst hvf
  subst hvl
  have HF := Lib.hid hf
  have HLD := Lib.hid hl
  have HXF := Lib.hid hxf
  have HXL := Lib.hid hxl
  have a4 : ¬ (ls.length : Int) > 6 := by omega
  have a1 : (fs.length : Int) > 12 := by omega
  have a2 : ((fs.length : Int) != 31) = false := by rw [bne_eq_false_iff_eq]; omega
  have a3 : ((fs.length : Int) == 31) = true := by rw [beq_iff_eq]; omega
  have h31 : fs.length ≤ 31 := by omega
  clear h12
  clear h hfo hlo hf hl hxf hxl
  go_enter Tryz.func5, Tryz.ntmps5
  go_wp2_with fail
  refine HB.out.mono ?_
  rintro e w1 ⟨rfl, hb1⟩
  have HB1 := Lib.hid hb1
  clear hb1 HB
  go_wp2
  go_loopg [6, 7] fs.length (fun gh v6 v7 wr => ∃ k : Nat, v7 = .int .i64 k ∧ k ≤ fs.length ∧ gh = fs.length - k ∧ Hid (OwX rcK wr w1.heap.size 65 v6 (fs.take k)) ∧ Hid (∀ q ∈ fs.take k, longR q = 0) ∧ Hid (Below w1.heap.size w1 wr))
  case atStart => exact ⟨0, rfl, Nat.zero_le _, rfl, Lib.hid (OwX.nil _ _ _), Lib.hid (fun q hq => by simp at hq), Lib.hid (Below.refl _ _)⟩
  case round =>
    obtain ⟨k, rfl, hk, hgm, HO, HLR, HBr⟩ := hrel
    have hlk : (fs.take k).length = k := by rw [List.length_take]; omega
    obtain ⟨A3, c3, hv3⟩ := HO.out.slice
    rw [hlk] at hv3
    subst hv3
    have HBw := Lib.hid (HB1.out.trans (HBr.out.mono HB1.out.size))
    by_cases hkl : k < fs.length
    · obtain ⟨g, o, rfl, hg, hx⟩ := HXF.out (by omega)
      obtain ⟨sl, hsl, x0, x1, x2, x3⟩ := hx k hkl
      obtain ⟨SA, sc, hsv, _⟩ := hsl.form
      subst hsv
      have y0 := (HBw.out.cell (p := ⟨g, o + k * 4, none⟩) hg).trans x0
      have y1 := (HBw.out.cell (p := ⟨g, o + k * 4 + 1, none⟩) hg).trans x1
      have y2 := (HBw.out.cell (p := ⟨g, o + k * 4 + 2, none⟩) hg).trans x2
      have y3 := (HBw.out.cell (p := ⟨g, o + k * 4 + 3, none⟩) hg).trans x3
      have b1 : (0 : Int) ≤ (k : Int) := by omega
      have b2 : (k : Int) < (fs.length : Int) := by omega
      have hro := HFO.out fs[k] (List.getElem_mem hkl)
      have HFK : Hid (fs.take (k + 1) = fs.take k ++ [fs[k]]) := Lib.hid (List.take_succ_eq_append_getElem hkl)
      generalize fs[k] = r at *
      have HLG := Lib.hid (LongRecipe_any (.agg #[VT r.name, .int .i64 r.len, .int .u32 (r.print : Int), .slice SA r.ids.length sc]) r hro.n hro.c wr.heap.size wr ⟨_, rfl, (hsl.keep HBw.out (Nat.le_refl _)).more HBw.out.size⟩)
      have HSL := Lib.hid hsl
      have X0 := Lib.hid x0
      have X1 := Lib.hid x1
      have X2 := Lib.hid x2
      have X3 := Lib.hid x3
      clear hx x0 x1 x2 x3 hsl
      by_cases hlr : longR r = 0
      · have hrl := longR_zeroT hlr
        have HLR2 : Hid (∀ q ∈ fs.take (k + 1), longR q = 0) := Lib.hid (fun q hq => by
          rw [HFK.out] at hq
          rcases List.mem_append.1 hq with h | h
          · exact HLR.out q h
          · rw [List.mem_singleton.1 h]; exact hlr)
        rw [hlr] at HLG
        clear hlr
        go_wp2_with fail
        refine HLG.out.mono ?_
        rintro e w3 ⟨rfl, hb3⟩
        have HB3 := Lib.hid (HBw.out.trans (hb3.mono HBw.out.size))
        have HB3r := Lib.hid (HBr.out.trans (hb3.mono HBr.out.size))
        have z0 := (HB3.out.cell (p := ⟨g, o + k * 4, none⟩) hg).trans X0.out
        have z1 := (HB3.out.cell (p := ⟨g, o + k * 4 + 1, none⟩) hg).trans X1.out
        have z2 := (HB3.out.cell (p := ⟨g, o + k * 4 + 2, none⟩) hg).trans X2.out
        have z3 := (HB3.out.cell (p := ⟨g, o + k * 4 + 3, none⟩) hg).trans X3.out
        have HO3 := Lib.hid (HO.out.below hb3)
        have HOR := Lib.hid (OwnRecipe_any (.agg #[VT r.name, .int .i64 r.len, .int .u32 (r.print : Int), .slice SA r.ids.length sc]) r (by omega) w3 ⟨_, rfl, (HSL.out.keep HB3.out (Nat.le_refl _)).more HB3.out.size⟩)
        clear hb3 HLG y0 y1 y2 y3
        go_wp2_with fail
        refine HOR.out.mono ?_
        rintro e w4 ⟨v4, rfl, ⟨sl4, rfl, hr4⟩, hb4⟩
        obtain ⟨A4, c4, hsl4⟩ : ∃ A c, sl4 = .slice A r.ids.length c := by obtain ⟨A, c, h, _⟩ := hr4; exact ⟨A, c, h⟩
        subst hsl4
        have HBq := Lib.hid (HB3r.out.trans (hb4.mono HB3r.out.size))
        have hfar : ∀ q, (Value.slice A3 k c3).ownBlock = some q → 0 < r.ids.length → (Value.slice A4 r.ids.length c4).ownBlock ≠ some q := fun q hq h0 e => by
          have := HO3.out.ltX hq
          obtain ⟨A, c, he, hc, hx⟩ := hr4
          obtain ⟨b, o, hA, hlo, _⟩ := hx h0
          injection he with e1 _ _
          rw [e1, hA] at e
          have : b = q := by simpa [Value.ownBlock] using e
          omega
        have HFAR := Lib.hid hfar
        have HR4 := Lib.hid hr4.rd
        have HO4 := Lib.hid (HO3.out.below hb4)
        clear hr4 hb4 hfar HOR HO z0 z1 z2 z3
        have haw : Below w4.heap.size w4 (w4.alloc (.cells #[VT r.name, .int .i64 r.len, .int .u32 (r.print : Int), .slice A4 r.ids.length c4] 65)) := (Below.refl _ _).alloc (Nat.le_refl _) _
        have haw2 : Below w4.heap.size w4 ((w4.alloc (.cells #[VT r.name, .int .i64 r.len, .int .u32 (r.print : Int), .slice A4 r.ids.length c4] 65)).alloc (.cells #[VT r.name, .int .i64 r.len, .int .u32 (r.print : Int), .slice A4 r.ids.length c4] 65)) := haw.alloc haw.size _
        obtain ⟨z0, z1, z2, z3, _⟩ := Box4.mk' w4 (VT r.name) (.int .i64 r.len) (.int .u32 (r.print : Int)) (.slice A4 r.ids.length c4) 65
        have HX4 := Lib.hid (HO4.out.below haw2)
        obtain ⟨E, hE, ho, hex⟩ := HX4.out
        have hEl : E.length = k := by rw [← hlk, ← hE, List.length_map]
        have hya : RdI ((w4.alloc (.cells #[VT r.name, .int .i64 r.len, .int .u32 (r.print : Int), .slice A4 r.ids.length c4] 65)).alloc (.cells #[VT r.name, .int .i64 r.len, .int .u32 (r.print : Int), .slice A4 r.ids.length c4] 65)) ((w4.alloc (.cells #[VT r.name, .int .i64 r.len, .int .u32 (r.print : Int), .slice A4 r.ids.length c4] 65)).alloc (.cells #[VT r.name, .int .i64 r.len, .int .u32 (r.print : Int), .slice A4 r.ids.length c4] 65)).heap.size (.slice A4 r.ids.length c4) r.ids := (HR4.out.keep haw2 (Nat.le_refl _)).more haw2.size
        have hok := ho
        rw [hEl] at hok
        have hok2 : ((w4.alloc (.cells #[VT r.name, .int .i64 r.len, .int .u32 (r.print : Int), .slice A4 r.ids.length c4] 65)).alloc (.cells #[VT r.name, .int .i64 r.len, .int .u32 (r.print : Int), .slice A4 r.ids.length c4] 65)).ownsRow w1.heap.size 65 4 (.slice A3 k c3) k (rcK.row E) := hok
        have HOK2 := Lib.hid hok2
        have HNE := Lib.hid (cells_new4 (w4.alloc (.cells #[VT r.name, .int .i64 r.len, .int .u32 (r.print : Int), .slice A4 r.ids.length c4] 65)) (VT r.name) (.int .i64 r.len) (.int .u32 (r.print : Int)) (.slice A4 r.ids.length c4) 65)
        have HBA2 := Lib.hid (HBq.out.trans (haw2.mono HBq.out.size))
        have HE := Lib.hid hE
        have HHO := Lib.hid ho
        have HEX := Lib.hid hex
        have HYA := Lib.hid hya
        have HEL := Lib.hid hEl
        have HONE := Lib.hid (rcK.one (a := r) hya)
        have hwa : (w4.alloc (.cells #[VT r.name, .int .i64 r.len, .int .u32 (r.print : Int), .slice A4 r.ids.length c4] 65)).heap.size = w4.heap.size + 1 := by simp
        clear haw haw2 hE ho hex hya hok hok2 hEl
        go_wp2_with (first | (at_builtin; refine wpList_append_own_at _ rfl (.tmp 47) (.tmp 49) 61 rfl w1.heap.size 65 i0 (.agg #[.string ByteArray.empty, .int .i64 0, .int .u32 0, .slice none 0 0]) 4 56 Tryz.underlying61 hi hz0 hz1 hz2 rfl (by decide) (.slice A3 k c3) k (rcK.row E) rfl HOK2.out ⟨w4.heap.size + 1, 0, none⟩ 1 1 [VT r.name, .int .i64 r.len, .int .u32 (r.print : Int), .slice A4 r.ids.length c4] rfl rfl (by rw [← hwa]; exact HNE.out) HONE.out (by unfold maxLen; omega) (by omega) HBA2.out.size ?_; intro v7 w7 hown7 hg7 _ hat7) | fail)
        have HO7 := Lib.hid (OwX.snoc HE.out HHO.out HEX.out (a := r) HYA.out HFAR.out (by rw [HEL.out]; exact hown7) hg7 hat7)
        have HB7 := Lib.hid (HBA2.out.grown hg7 HBA2.out.size (fun q hq => own_ge HHO.out hq))
        rw [← HFK.out] at HO7
        clear hown7 hg7 hat7
        go_wp2
        go_roundg (fs.length - (k + 1))
        case measure => omega
        case rel => exact ⟨k + 1, by go_num, hkl, rfl, HO7, HLR2, HB7⟩
      · rw [longR_oneT hlr] at HLG
        clear hlr
        go_wp2_with fail
        refine HLG.out.mono ?_
        rintro e w3 ⟨rfl, hb3⟩
        have HB3 := Lib.hid (HBw.out.trans (hb3.mono HBw.out.size))
        clear hb3
        go_wp2
        go_ret
        exact ⟨rfl, HB3.out⟩
    · obtain rfl : k = fs.length := by omega
      rw [List.take_length] at HO HLR
      have HFB : Hid (∀ q ∈ fs, RcpB q) := Lib.hid (fun q hq => (HFO.out q hq).bT (HLR.out q hq))
      obtain ⟨wo, hwo⟩ : ∃ x, x = wr := ⟨_, rfl⟩
      subst hwo
      clear hk hgm
      go_wp2
      go_loopg [9, 10] ls.length (fun gh v9 v10 wr => ∃ k : Nat, v10 = .int .i64 k ∧ k ≤ ls.length ∧ gh = ls.length - k ∧ Hid (OwX ldK wr wo.heap.size 72 v9 (ls.take k)) ∧ Hid (∀ q ∈ ls.take k, longZ q.l = 0) ∧ Hid (Below wo.heap.size wo wr))
      case atStart => exact ⟨0, rfl, Nat.zero_le _, rfl, Lib.hid (OwX.nil _ _ _), Lib.hid (fun q hq => by simp at hq), Lib.hid (Below.refl _ _)⟩
      case round =>
        obtain ⟨k, rfl, hk, hgm, HQ, HLZ, HBq⟩ := hrel
        have hlk2 : (ls.take k).length = k := by rw [List.length_take]; omega
        obtain ⟨A8, c8, hv8⟩ := HQ.out.slice
        rw [hlk2] at hv8
        subst hv8
        have HBW := Lib.hid (HBw.out.trans (HBq.out.mono HBw.out.size))
        by_cases hkl : k < ls.length
        · obtain ⟨g, o, rfl, hg, hx⟩ := HXL.out (by omega)
          obtain ⟨sl, hsl, x0, x1, x2⟩ := hx k hkl
          obtain ⟨SA, sc, hsv, _⟩ := hsl.form
          subst hsv
          have b1 : (0 : Int) ≤ (k : Int) := by omega
          have b2 : (k : Int) < (ls.length : Int) := by omega
          have hlo := HLO.out ls[k] (List.getElem_mem hkl)
          have HFK : Hid (ls.take (k + 1) = ls.take k ++ [ls[k]]) := Lib.hid (List.take_succ_eq_append_getElem hkl)
          generalize ls[k] = y at *
          have hgr : g < wr.heap.size := Nat.lt_of_lt_of_le hg HBW.out.size
          have y2 := (HBW.out.cell (p := ⟨g, o + k * 3 + 2, none⟩) hg).trans x2
          have Y0 := Lib.hid ((HBW.out.cell (p := ⟨g, o + k * 3, none⟩) hg).trans x0)
          have Y1 := Lib.hid ((HBW.out.cell (p := ⟨g, o + k * 3 + 1, none⟩) hg).trans x1)
          have Y2 := Lib.hid y2
          have HLH := Lib.hid (LongHelds_any (.slice SA y.l.length sc) y.l hlo.len (fun x hx => (hlo.all x hx).2) wr.heap.size wr ((hsl.keep HBW.out (Nat.le_refl _)).more HBW.out.size))
          have HSL := Lib.hid hsl
          clear hx x0 x1 x2 hsl
          by_cases hlz : longZ y.l = 0
          · have hzl := longZ_zeroT hlz
            have HLZ2 : Hid (∀ q ∈ ls.take (k + 1), longZ q.l = 0) := Lib.hid (fun q hq => by
              rw [HFK.out] at hq
              rcases List.mem_append.1 hq with h | h
              · exact HLZ.out q h
              · rw [List.mem_singleton.1 h]; exact hlz)
            rw [hlz] at HLH
            obtain ⟨hzl1, _⟩ := hzl
            clear hlz
            go_wp2_with fail
            refine HLH.out.mono ?_
            rintro e w3 ⟨rfl, hw3⟩
            subst hw3
            clear HLH y2
            go_wp2
            have hS0 : Below wr.heap.size wr wr.drew := (Below.refl _ _).drew
            refine region_S (fun w' => Below wr.heap.size wr w') 14 (by kernel_rfl) (by kernel_rfl) ?_
            refine take_S 0 rfl (by kernel_rfl) (by kernel_rfl) hS0 (fun w' hS => by go_simp; rfl) ?_
            refine take_S 1 rfl (by kernel_rfl) (by kernel_rfl) hS0 (fun w' hS => by go_simp; rfl) ?_
            refine take_S 2 rfl (by kernel_rfl) (by kernel_rfl) hS0 (fun w' hS => by go_simp; rfl) ?_
            refine take_S 3 rfl (by kernel_rfl) (by kernel_rfl) hS0 (fun w' hS => by go_simp; rfl) ?_
            refine take_S 4 rfl (by kernel_rfl) (by kernel_rfl) hS0 (fun w' hS => by go_simp; rfl) ?_
            refine take_S 5 rfl (by kernel_rfl) (by kernel_rfl) hS0 (fun w' hS => by have A0 := (hS.cell (p := ⟨g, o + k * 3, none⟩) hgr).trans Y0.out; have A1 := (hS.cell (p := ⟨g, o + k * 3 + 1, none⟩) hgr).trans Y1.out; go_simp; rfl) ?_
            refine take_S 6 rfl (by kernel_rfl) (by kernel_rfl) hS0 (fun w' hS => by go_simp; rfl) ?_
            refine take_S 7 rfl (by kernel_rfl) (by kernel_rfl) hS0 (fun w' hS => by go_simp; rfl) ?_
            refine take_S 8 rfl (by kernel_rfl) (by kernel_rfl) hS0 (fun w' hS => by go_simp; rfl) ?_
            refine take_S 9 rfl (by kernel_rfl) (by kernel_rfl) hS0 (fun w' hS => by go_simp; rfl) ?_
            refine take_S 10 rfl (by kernel_rfl) (by kernel_rfl) hS0 (fun w' hS => by have A2 := (hS.cell (p := ⟨g, o + k * 3 + 2, none⟩) hgr).trans Y2.out; go_simp; rfl) ?_
            refine carry_S 11 rfl (by kernel_rfl) (by decide) (by kernel_rfl) (fun K hK => ?_)
            go_simp
            refine (OwnHelds_any (.slice SA y.l.length sc) y.l (by omega) wr.drew.heap.size wr.drew ((HSL.out.keep (HBW.out.trans (hS0.mono HBW.out.size)) (Nat.le_refl _)).more (HBW.out.trans (hS0.mono HBW.out.size)).size)).mono ?_
            rintro e w8 ⟨v7, rfl, hown7, hbw8⟩
            obtain ⟨A7, c7, hv7⟩ := own_formI hown7
            subst hv7
            have hS3 : Below wr.heap.size wr w8 := hS0.trans (hbw8.mono hS0.size)
            refine hK _ _ hS3 ?_
            clear hK K
            try simp only [Act.put, List.getElem_toArray, List.getElem_cons_succ, List.getElem_cons_zero, List.setIfInBounds_toArray, List.set_cons_zero, List.set_cons_succ]
            refine take_S 12 rfl (by kernel_rfl) (by kernel_rfl) hS3 (fun w' hS => by go_simp; rfl) ?_
            refine carry_S 13 rfl (by kernel_rfl) (by decide) (by kernel_rfl) (fun K hK => ?_)
            go_simp
            have haw : Below w8.heap.size w8 (w8.alloc (.cells #[.int .u32 (y.rep.1 : Int), .int .i64 y.rep.2, .slice A7 y.l.length c7] 72)) := (Below.refl _ _).alloc (Nat.le_refl _) _
            have hS4 : Below wr.heap.size wr (w8.alloc (.cells #[.int .u32 (y.rep.1 : Int), .int .i64 y.rep.2, .slice A7 y.l.length c7] 72)) := hS3.trans (haw.mono hS3.size)
            refine hK _ _ hS4 (forced_S (by kernel_rfl) ?_)
            clear hK K
            try simp only [Act.put, List.getElem_toArray, List.getElem_cons_succ, List.getElem_cons_zero, List.setIfInBounds_toArray, List.set_cons_zero, List.set_cons_succ]
            try simp only [Act.put, List.getElem_toArray, List.getElem_cons_succ, List.getElem_cons_zero, List.setIfInBounds_toArray, List.set_cons_zero, List.set_cons_succ]
            simp only [List.drop_succ_cons, List.drop_zero]
            have HBA := Lib.hid (HBq.out.trans (hS4.mono HBq.out.size))
            have HX7 := Lib.hid (HQ.out.below hS4)
            obtain ⟨E, hE, ho, hex⟩ := HX7.out
            have hEl : E.length = k := by rw [← hlk2, ← hE, List.length_map]
            have hya : RdL (w8.alloc (.cells #[.int .u32 (y.rep.1 : Int), .int .i64 y.rep.2, .slice A7 y.l.length c7] 72)) (w8.alloc (.cells #[.int .u32 (y.rep.1 : Int), .int .i64 y.rep.2, .slice A7 y.l.length c7] 72)).heap.size (.slice A7 y.l.length c7) y.l := RdL.more (RdL.keep (RdL.own hown7) haw (Nat.le_refl _)) haw.size
            have HFAR : Hid (∀ q, (Value.slice A8 k c8).ownBlock = some q → 0 < y.l.length → (Value.slice A7 y.l.length c7).ownBlock ≠ some q) := Lib.hid (fun q hq _ e => by
              have h1 := HQ.out.ltX hq
              have h2 := own_ge hown7 e
              simp only [World.drew] at h2
              omega)
            have hok := ho
            rw [hEl] at hok
            have hok2 : (w8.alloc (.cells #[.int .u32 (y.rep.1 : Int), .int .i64 y.rep.2, .slice A7 y.l.length c7] 72)).ownsRow wo.heap.size 72 3 (.slice A8 k c8) k (ldK.row E) := hok
            have HOK2 := Lib.hid hok2
            have HNE := Lib.hid (cells_new3 w8 (.int .u32 (y.rep.1 : Int)) (.int .i64 y.rep.2) (.slice A7 y.l.length c7) 72)
            have HE := Lib.hid hE
            have HHO := Lib.hid ho
            have HEX := Lib.hid hex
            have HYA := Lib.hid hya
            have HEL := Lib.hid hEl
            have HONE := Lib.hid (ldK.one (a := y) hya)
            clear haw hE ho hex hya hok hok2 hEl hS0 hS3 hS4 hown7 hbw8
            go_wp2_with (first | (at_builtin; go_loud (refine wpList_append_own_at _ rfl (.tmp 64) (.tmp 77) 67 rfl wo.heap.size 72 i1 (.agg #[.int .u32 0, .int .i64 0, .slice none 0 0]) 3 40 Tryz.underlying67 hj hy0 hy1 hy2 rfl (by decide) (.slice A8 k c8) k (ldK.row E) rfl HOK2.out ⟨w8.heap.size, 0, none⟩ 1 1 [.int .u32 (y.rep.1 : Int), .int .i64 y.rep.2, .slice A7 y.l.length c7] rfl rfl HNE.out HONE.out (by unfold maxLen; omega) (by omega) HBA.out.size ?_; intro v9 w9 hown9 hg9 _ hat9)) | fail)
            have HO9 := Lib.hid (OwX.snoc HE.out HHO.out HEX.out (a := y) HYA.out HFAR.out (by rw [HEL.out]; exact hown9) hg9 hat9)
            have HB9 := Lib.hid (HBA.out.grown hg9 HBA.out.size (fun q hq => own_ge HHO.out hq))
            rw [← HFK.out] at HO9
            clear hown9 hg9 hat9
            go_wp2
            go_roundg (ls.length - (k + 1))
            case measure => omega
            case rel => exact ⟨k + 1, by go_num, hkl, rfl, HO9, HLZ2, HB9⟩
          · rw [longZ_oneT hlz] at HLH
            clear hlz
            go_wp2_with fail
            refine HLH.out.mono ?_
            rintro e w3 ⟨rfl, hw3⟩
            subst hw3
            clear HLH y2
            go_wp2
            go_ret
            exact ⟨rfl, HBW.out⟩
        · obtain rfl : k = ls.length := by omega
          rw [List.take_length] at HQ HLZ
          have HLL : Hid (∀ q ∈ ls, q.l.length ≤ 1000000 ∧ ∀ x ∈ q.l, HldW x ∧ x.text.length ≤ 100) := Lib.hid (fun q hq => by
            obtain ⟨h1, h2⟩ := longZ_zeroT (HLZ.out q hq)
            exact ⟨by omega, fun x hx => ⟨((HLO.out q hq).all x hx).1, h2 x hx⟩⟩)
          have HRS := Lib.hid (HO.out.below HBq.out).rs
          have HCK := Lib.hid (ScCheck_any a (.slice A3 fs.length c3) (.slice A8 ls.length c8) fs ls (by omega) HFB.out (by omega) (fun q hq => (HLL.out q hq).1) (fun q hq x hx => ⟨((HLL.out q hq).2 x hx).1, by have := ((HLL.out q hq).2 x hx).2; omega⟩) wr HRS.out HQ.out.ls ((HS.out.below HBW.out).someS [1, 2, 3, 4, 6, 7, 8, 10] (by decide)))
          unfold ScPost at HCK
          clear hk hgm
          go_wp2_with fail
          refine HCK.out.mono ?_
          rintro e w5 ⟨x, rfl, hev, hb5⟩
          have HB5 := Lib.hid (HBW.out.trans (hb5.mono HBW.out.size))
          have HEV := Lib.hid hev
          have HSF := Lib.hid (RScrubF_any (.slice FA fs.length fc) (.slice A ls.length c) fs ls (by omega) HFB.out (by omega) (fun q hq => (HLL.out q hq).1) (fun q hq x hx => by have := ((HLL.out q hq).2 x hx).2; omega) w5 ((HF.out.keep HB5.out (Nat.le_refl _)).more HB5.out.size) ((HLD.out.keep HB5.out (Nat.le_refl _)).more HB5.out.size))
          unfold SfP at HSF
          clear hev hb5 HCK
          generalize checkS fs ls = F at *
          go_wp2_with fail
          refine HSF.out.mono ?_
          rintro e w6 ⟨rfl, hb6⟩
          have HB6 := Lib.hid (HB5.out.trans (hb6.mono HB5.out.size))
          have HFA := Lib.hid (faulted2_any a x F.1 F.2 F.1 F.2 w6 (HS.out.below HB6.out) ((HEV.out.below hb6).toErrV (HS.out.below HB6.out)))
          have hfb : faultedB F.1 F.2 F.1 F.2 = true := by unfold faultedB; simp
          rw [hfb] at HFA
          clear hb6 HSF hfb
          go_wp2_with fail
          refine HFA.out.mono ?_
          rintro e w7 ⟨rfl, hb7⟩
          have HB7 := Lib.hid (HB6.out.trans (hb7.mono HB6.out.size))
          have HON := Lib.hid (ScOf_nil a w7 ((HS.out.below HB7.out).someS [2] (by decide)))
          clear hb7 HFA
          go_wp2_with fail
          refine HON.out.mono ?_
          rintro e w8 ⟨rfl, hw8⟩
          subst hw8
          have HCD := Lib.hid (coded2_any a (sval a 2) 3 3 (-1) w8 (HS.out.below HB7.out) ((EV.sent a w8 2 (by decide)).toErrV (HS.out.below HB7.out)))
          have hcb : codedB 3 3 (-1) = true := by decide
          rw [hcb] at HCD
          unfold sval at HCD ⊢
          clear HON hcb
          go_wp2_with fail
          refine HCD.out.mono ?_
          rintro e w9 ⟨rfl, hb9⟩
          have HB9 := Lib.hid (HB7.out.trans (hb9.mono HB7.out.size))
          clear hb9
          go_wp2
          go_ret
          exact ⟨rfl, HB9.out⟩
theorem ScrubTells_walk (a : Nat → Addr) (vf vb : Value) (fs : List Rcp) (ls : List Load) (hfo : ∀ r ∈ fs, RcpO r) (hlo : ∀ y ∈ ls, LdO y) (w : World) (hf : RsRd w w.heap.size vf fs) (hl : LdRd w w.heap.size vb ls) (h : Sents a w) :
    Calls Tryz.prog 5 #[vf, vb] w fun e w' => e = .returned (.bool true) ∧ Below w.heap.size w w' := by
  by_cases hlong : (12 < fs.length ∧ fs.length ≠ 31) ∨ 6 < ls.length
  · exact ScrubTells_long a vf vb fs ls hlong w hf hl h
  · have h6 : ls.length ≤ 6 := by omega
    by_cases h12 : fs.length ≤ 12
    · exact ScrubTells_few a vf vb fs ls hfo hlo h12 h6 w hf hl h
    · exact ScrubTells_many a vf vb fs ls hfo hlo (by omega) h6 w hf hl h
end Go.Proofs.YtpanoplcamdnkaaGreatDoor

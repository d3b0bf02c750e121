/- RsA, RsB, RsC, RsD in one text. Conditions: as each part says. -/
import Derived.Test.YtpanoplcamdnkaaGreatDoorScr2
import Derived.Test.YtpanoplcamdnkaaGreatDoorRrf1
/- Walks of the reference's findBin, times. No conditions but bounds. -/
namespace Go.Proofs.YtpanoplcamdnkaaGreatDoor
open Go.RowKit Go.Lib

set_option maxRecDepth 100000 in
set_option maxHeartbeats 1000000 in
theorem RFindBin_any (v : Value) (ls : List Load) (hl : ls.length ≤ 1000000) (x : Idn) (w : World) (hv : LdRd w w.heap.size v ls) :
    Calls Tryz.prog 137 #[v, idV x] w fun e w' => e = .returned (.int .i64 (ixP (fun b => decide (b.rep = x)) ls)) ∧ Below w.heap.size w w' := by
  obtain ⟨A, c, rfl, hcap, hcells⟩ := hv
  have hb1 : Below w.heap.size w (w.alloc (.cells #[.int .u32 (x.1 : Int), .int .i64 x.2] 47)) := (Below.refl _ _).alloc (Nat.le_refl _) _
  have HX := Lib.hid hcells
  have HB1 := Lib.hid hb1
  have BX1 := Lib.hid (Box2.mk' w (.int .u32 (x.1 : Int)) (.int .i64 x.2) 47)
  clear hb1 hcells
  go_enter Tryz.func137, Tryz.ntmps137
  go_wp2
  generalize (w.alloc (.cells #[.int .u32 (x.1 : Int), .int .i64 x.2] 47)) = w1 at *
  go_loopg [5] ls.length (fun gh v5 wr => ∃ k : Nat, v5 = .int .i64 k ∧ k ≤ ls.length ∧ gh = ls.length - k ∧ Hid (∀ j (hj : j < k) (hl : j < ls.length), ls[j].rep ≠ x) ∧ Hid (Below w1.heap.size w1 wr))
  case atStart => exact ⟨0, rfl, Nat.zero_le _, rfl, Lib.hid (fun j hj => absurd hj (Nat.not_lt_zero _)), Lib.hid (Below.refl _ _)⟩
  case round =>
    obtain ⟨k, rfl, hk, hgm, HI, HBr⟩ := hrel
    by_cases hkl : k < ls.length
    · obtain ⟨g, o, rfl, hg, hx⟩ := HX.out (by omega)
      obtain ⟨sl, hsl, x0, x1, _⟩ := hx k hkl
      have HBw := Lib.hid (HB1.out.trans (HBr.out.mono HB1.out.size))
      have y0 := (HBw.out.cell (p := ⟨g, o + k * 3, none⟩) hg).trans x0
      have y1 := (HBw.out.cell (p := ⟨g, o + k * 3 + 1, none⟩) hg).trans x1
      obtain ⟨z0, z1, _, _⟩ := BX1.out.below HBr.out BX1.out.lt
      have b1 : (0 : Int) ≤ (k : Int) := by omega
      have b2 : (k : Int) < (ls.length : Int) := by omega
      clear hx x0 x1 hsl
      by_cases he : ls[k].rep = x
      · obtain ⟨t1, t2⟩ := idq_eqs he
        have HQ : Hid (ixP (fun b => decide (b.rep = x)) ls = (k : Int)) := Lib.hid (ixP_at hkl (fun j hj => decide_eq_false (HI.out j hj (by omega))) (decide_eq_true he))
        clear he
        go_wp2
        go_quiet (fail)
        have hbd := below_drewN (Below.refl wr.heap.size wr) nq
        have HBd := Lib.hid (HBr.out.trans (hbd.mono HBr.out.size))
        clear hbd
        go_wp2
        go_ret
        exact ⟨by rw [HQ.out]; rfl, HB1.out.trans (HBd.out.mono HB1.out.size)⟩
      · have HN : Hid (∀ j (hj : j < k + 1) (hl : j < ls.length), ls[j].rep ≠ x) := Lib.hid (fun j hj hl => by
          by_cases e : j = k
          · subst e; exact he
          · exact HI.out j (by omega) hl)
        have hne := idq_ne he
        clear he
        rcases hne with t1 | ⟨t1, t2⟩
        · skip
          go_wp2
          go_quiet (fail)
          have hbd := below_drewN (Below.refl wr.heap.size wr) nq
          have HBd := Lib.hid (HBr.out.trans (hbd.mono HBr.out.size))
          clear hbd
          go_wp2
          go_roundg (ls.length - (k + 1))
          case measure => omega
          case rel => exact ⟨k + 1, by go_num, hkl, rfl, HN, HBd⟩
        · skip
          go_wp2
          go_quiet (fail)
          have hbd := below_drewN (Below.refl wr.heap.size wr) nq
          have HBd := Lib.hid (HBr.out.trans (hbd.mono HBr.out.size))
          clear hbd
          go_wp2
          go_roundg (ls.length - (k + 1))
          case measure => omega
          case rel => exact ⟨k + 1, by go_num, hkl, rfl, HN, HBd⟩
    · obtain rfl : k = ls.length := by omega
      have HQ : Hid (ixP (fun b => decide (b.rep = x)) ls = -1) := Lib.hid (ixP_none (fun j hj => decide_eq_false (HI.out j hj hj)))
      go_wp2
      go_ret
      exact ⟨by rw [HQ.out]; rfl, HB1.out.trans (HBr.out.mono HB1.out.size)⟩
set_option maxRecDepth 100000 in
set_option maxHeartbeats 1000000 in
theorem RTimes_any (v : Value) (r : Rcp) (hc : r.ids.length ≤ 1000000) (x : Idn) (w : World) (hv : RcpV w w.heap.size v r) :
    Calls Tryz.prog 139 #[v, idV x] w fun e w' => e = .returned (.int .i64 (r.ids.count x : Nat)) ∧ Below w.heap.size w w' := by
  obtain ⟨sl, rfl, hrd⟩ := hv
  obtain ⟨SA, sc, rfl, hcap, hcells⟩ := hrd.form
  have hb0 : Below w.heap.size w (w.alloc (.cells #[VT r.name, .int .i64 r.len, .int .u32 (r.print : Int), .slice SA r.ids.length sc] 65)) := (Below.refl _ _).alloc (Nat.le_refl _) _
  have hb2 : Below (w.alloc (.cells #[VT r.name, .int .i64 r.len, .int .u32 (r.print : Int), .slice SA r.ids.length sc] 65)).heap.size (w.alloc (.cells #[VT r.name, .int .i64 r.len, .int .u32 (r.print : Int), .slice SA r.ids.length sc] 65)) ((w.alloc (.cells #[VT r.name, .int .i64 r.len, .int .u32 (r.print : Int), .slice SA r.ids.length sc] 65)).alloc (.cells #[.int .u32 (x.1 : Int), .int .i64 x.2] 47)) := (Below.refl _ _).alloc (Nat.le_refl _) _
  have hbr := Box4.mk' w (VT r.name) (.int .i64 r.len) (.int .u32 (r.print : Int)) (.slice SA r.ids.length sc) 65
  have BR1 := Lib.hid (hbr.below hb2 hbr.lt)
  have BX1 := Lib.hid (Box2.mk' (w.alloc (.cells #[VT r.name, .int .i64 r.len, .int .u32 (r.print : Int), .slice SA r.ids.length sc] 65)) (.int .u32 (x.1 : Int)) (.int .i64 x.2) 47)
  have hz1 : (w.alloc (.cells #[VT r.name, .int .i64 r.len, .int .u32 (r.print : Int), .slice SA r.ids.length sc] 65)).heap.size = w.heap.size + 1 := by simp
  rw [hz1] at BX1
  have HX := Lib.hid hcells
  have HB1 := Lib.hid (hb0.trans (hb2.mono hb0.size))
  clear hb0 hb2 hcells hrd hbr hz1
  go_enter Tryz.func139, Tryz.ntmps139
  go_wp2
  generalize ((w.alloc (.cells #[VT r.name, .int .i64 r.len, .int .u32 (r.print : Int), .slice SA r.ids.length sc] 65)).alloc (.cells #[.int .u32 (x.1 : Int), .int .i64 x.2] 47)) = w1 at *
  go_loopg [5, 6] r.ids.length (fun gh v5 v6 wr => ∃ k : Nat, v6 = .int .i64 k ∧ v5 = .int .i64 ((r.ids.take k).count x : Nat) ∧ k ≤ r.ids.length ∧ gh = r.ids.length - k ∧ Hid (Below w1.heap.size w1 wr))
  case atStart => exact ⟨0, rfl, rfl, Nat.zero_le _, rfl, Lib.hid (Below.refl _ _)⟩
  case round =>
    obtain ⟨k, rfl, rfl, hk, hgm, HBr⟩ := hrel
    obtain ⟨r0, r1, r2, r3, _⟩ := BR1.out.below HBr.out BR1.out.lt
    by_cases hkl : k < r.ids.length
    · obtain ⟨g, o, rfl, hg, hx⟩ := HX.out (by omega)
      obtain ⟨x0, x1⟩ := hx k hkl
      have HBw := Lib.hid (HB1.out.trans (HBr.out.mono HB1.out.size))
      have y0 := (HBw.out.cell (p := ⟨g, o + k * 2, none⟩) hg).trans x0
      have y1 := (HBw.out.cell (p := ⟨g, o + k * 2 + 1, none⟩) hg).trans x1
      obtain ⟨z0, z1, _, _⟩ := BX1.out.below HBr.out BX1.out.lt
      have b1 : (0 : Int) ≤ (k : Int) := by omega
      have b2 : (k : Int) < (r.ids.length : Int) := by omega
      have hcs := count_succ hkl x
      have hcb : (r.ids.take k).count x ≤ k := Nat.le_trans List.count_le_length (by rw [List.length_take]; omega)
      clear hx x0 x1
      by_cases he : r.ids[k] = x
      · obtain ⟨t1, t2⟩ := idq_eqs he
        rw [if_pos he] at hcs
        have HCS := Lib.hid hcs
        clear he hcs
        go_wp2
        go_quiet (fail)
        have hbd := below_drewN (Below.refl wr.heap.size wr) nq
        have HBd := Lib.hid (HBr.out.trans (hbd.mono HBr.out.size))
        clear hbd
        go_wp2
        go_roundg (r.ids.length - (k + 1))
        case measure => omega
        case rel => exact ⟨k + 1, by go_num, by rw [HCS.out], hkl, rfl, HBd⟩
      · rw [if_neg he, Int.add_zero] at hcs
        have HCS := Lib.hid hcs
        have hne := idq_ne he
        clear he hcs
        rcases hne with t1 | ⟨t1, t2⟩
        · skip
          go_wp2
          go_quiet (fail)
          have hbd := below_drewN (Below.refl wr.heap.size wr) nq
          have HBd := Lib.hid (HBr.out.trans (hbd.mono HBr.out.size))
          clear hbd
          go_wp2
          go_roundg (r.ids.length - (k + 1))
          case measure => omega
          case rel => exact ⟨k + 1, by go_num, by rw [HCS.out], hkl, rfl, HBd⟩
        · skip
          go_wp2
          go_quiet (fail)
          have hbd := below_drewN (Below.refl wr.heap.size wr) nq
          have HBd := Lib.hid (HBr.out.trans (hbd.mono HBr.out.size))
          clear hbd
          go_wp2
          go_roundg (r.ids.length - (k + 1))
          case measure => omega
          case rel => exact ⟨k + 1, by go_num, by rw [HCS.out], hkl, rfl, HBd⟩
    · obtain rfl : k = r.ids.length := by omega
      have HTL : Hid (r.ids.take r.ids.length = r.ids) := Lib.hid List.take_length
      go_wp2
      go_ret
      exact ⟨by rw [HTL.out]; rfl, HB1.out.trans (HBr.out.mono HB1.out.size)⟩
end Go.Proofs.YtpanoplcamdnkaaGreatDoor
/- Walk of the reference's fileError. No conditions but bounds. -/
namespace Go.Proofs.YtpanoplcamdnkaaGreatDoor
open Go.RowKit Go.Lib

theorem Rs_field0 (x y : Int) (w : World) : (Instr.field 76 (.agg #[.int .i64 x, .int .i64 y]) 0).run Tryz.prog w = .ok (.int .i64 x) w := by kernel_rfl
theorem idsFault_nn (len : Int) : ∀ (l : IdL) (i : Nat) (n : Int), 0 ≤ (idsFault len i n l).1
  | [], _, n => by unfold idsFault; split <;> simp
  | x :: r, i, n => by
    unfold idsFault
    split
    · show (0 : Int) ≤ 3; decide
    · exact idsFault_nn len r _ _
theorem rcpFault_nn (r : Rcp) : 0 ≤ (rcpFault r).1 := by
  unfold rcpFault
  split
  · show (0 : Int) ≤ 4; decide
  · split
    · show (0 : Int) ≤ 2; decide
    · split
      · show (0 : Int) ≤ 7; decide
      · exact idsFault_nn _ _ _ _
theorem thereS_at {r : Rcp} {ls : List Load} {k : Nat} (hk : k < ls.length) (h : ls.find? (fun b => decide (b.rep = repOf r.ids)) = some ls[k]) {x : Idn} (hx : x ∈ r.ids) (hl : lacks x ls[k].l = true) : thereS r ls = 5 := by
  rw [thereS_some h, if_pos (List.any_eq_true.2 ⟨x, hx, hl⟩)]
theorem thereS_all {r : Rcp} {ls : List Load} {k : Nat} (hk : k < ls.length) (h : ls.find? (fun b => decide (b.rep = repOf r.ids)) = some ls[k]) (hl : ∀ x ∈ r.ids, lacks x ls[k].l = false) : thereS r ls = 0 := by
  rw [thereS_some h, if_neg]
  rw [Bool.not_eq_true, List.any_eq_false]
  exact fun x hx => by rw [hl x hx]; simp
theorem any_take {L : HldL} {q : Nat} (hq : q < L.length) (p : Hld → Bool) : (L.take (q + 1)).any p = ((L.take q).any p || p L[q]) := by
  rw [List.take_succ_eq_append_getElem hq, List.any_append, List.any_cons, List.any_nil, Bool.or_false]
def FeP (c : Int) (w : World) (e : Ending) (w' : World) : Prop := e = .returned (.int .i64 c) ∧ Below w.heap.size w w'
set_option maxRecDepth 100000 in
set_option maxHeartbeats 2000000 in
theorem RFileErr_first (vf vb : Value) (fs : List Rcp) (ls : List Load) (hfl : fs.length ≤ 1000000) (hll : ls.length ≤ 1000000) (hlb : ∀ y ∈ ls, y.l.length ≤ 1000000) (i : Nat) (hi : i < fs.length) (hr : RcpB fs[i]) (hi0 : i = 0) (w : World) (hf : RsRd w w.heap.size vf fs) (hl : LdRd w w.heap.size vb ls) :
    Calls Tryz.prog 82 #[vf, .int .i64 (i : Int), vb] w (FeP (fileS (prevR fs i) fs[i] ls) w) := by
  have b1 : (0 : Int) ≤ (i : Int) := by omega
  have b2 : (i : Int) < (fs.length : Int) := by omega
  have hfp : 0 < fs.length := by omega
  have b7 : ¬ ((i : Int) > 0) := by omega
  have hpr : prevR fs i = none := if_pos hi0
  clear hi0
  obtain ⟨A, c, rfl, hcap, hcells⟩ := hf
  obtain ⟨g, o, rfl, hg, hx⟩ := hcells hfp
  obtain ⟨BA, bc, hvb, hbcap, hbx⟩ := id hl
  subst hvb
  obtain ⟨sl, hsl, x0, x1, x2, x3⟩ := hx i hi
  obtain ⟨SA, sc, hsv, _, hic⟩ := hsl.form
  subst hsv
  generalize hri : fs[i] = r at *
  have HIC := Lib.hid hic
  have HBX := Lib.hid hbx
  have HLD := Lib.hid hl
  have HSL := Lib.hid hsl
  have HLB := Lib.hid hlb
  have X0 := Lib.hid x0
  have X1 := Lib.hid x1
  have X2 := Lib.hid x2
  have X3 := Lib.hid x3
  have hrc := hr.c
  have HRF := Lib.hid (RRecipeFault_any (.agg #[VT r.name, .int .i64 r.len, .int .u32 (r.print : Int), .slice SA r.ids.length sc]) r hr w ⟨_, rfl, hsl⟩)
  have HNN := Lib.hid (rcpFault_nn r)
  have hf0 := Rs_field0
  clear hcells hx hl hsl hr hri hic hbx hlb
  go_enter Tryz.func82, Tryz.ntmps82
  go_wp2_with fail
  unfold FltPost at HRF
  refine HRF.out.mono ?_
  rintro e w3 ⟨rfl, hb3⟩
  have HB3 := Lib.hid hb3
  clear hb3 HRF x0 x1 x2 x3
  by_cases hc0 : (rcpFault r).1 = 0
  · have hcp : ¬ (rcpFault r).1 > 0 := by omega
    have HF := Lib.hid (fileS_3 (prev := prevR fs i) (ls := ls) hc0 (fun p hp => by rw [hpr] at hp; cases hp))
    rw [rcpFault_two hc0]
    clear hc0 hpr hcp
    have HBd := HB3
    obtain ⟨wd, hwd⟩ : ∃ x, x = w3 := ⟨_, rfl⟩
    subst hwd
    have HRP := Lib.hid (RRepOf_any (.agg #[VT r.name, .int .i64 r.len, .int .u32 (r.print : Int), .slice SA r.ids.length sc]) r hrc wd ⟨_, rfl, (HSL.out.keep HBd.out (Nat.le_refl _)).more HBd.out.size⟩)
    have e0 := (HBd.out.cell (p := ⟨g, o + i * 4, none⟩) hg).trans X0.out
    have e1 := (HBd.out.cell (p := ⟨g, o + i * 4 + 1, none⟩) hg).trans X1.out
    have e2 := (HBd.out.cell (p := ⟨g, o + i * 4 + 2, none⟩) hg).trans X2.out
    have e3 := (HBd.out.cell (p := ⟨g, o + i * 4 + 3, none⟩) hg).trans X3.out
    go_wp2_with fail
    refine HRP.out.mono ?_
    rintro e w4 ⟨rfl, hb4⟩
    have HB4 := Lib.hid (HBd.out.trans (hb4.mono HBd.out.size))
    have HFB := Lib.hid (RFindBin_any (.slice BA ls.length bc) ls hll (repOf r.ids) w4 ((HLD.out.keep HB4.out (Nat.le_refl _)).more HB4.out.size))
    clear hb4 HRP e0 e1 e2 e3
    go_wp2_with fail
    refine HFB.out.mono ?_
    rintro e w5 ⟨rfl, hb5⟩
    have HB5 := Lib.hid (HB4.out.trans (hb5.mono HB4.out.size))
    clear hb5 HFB
    rcases ixP_find (fun b : Load => decide (b.rep = repOf r.ids)) ls with ⟨hx1, hx2⟩ | ⟨k, hk, hx1, hx2⟩
    · rw [hx1]
      have HQ := Lib.hid (HF.out.trans (thereS_none hx2))
      clear hx1 hx2
      go_wp2
      go_ret
      exact ⟨by rw [HQ.out]; rfl, HB5.out⟩
    · rw [hx1]
      have HFD := Lib.hid hx2
      have hkn : ¬ ((k : Int) < 0) := by omega
      have hk0 : (0 : Int) ≤ (k : Int) := by omega
      have hkl : (k : Int) < (ls.length : Int) := by omega
      clear hx1 hx2
      obtain ⟨bg, bo, hBA, hbg, hbc⟩ := HBX.out (by omega)
      subst hBA
      obtain ⟨lsl, hlsl, _, _, d2⟩ := hbc k hk
      obtain ⟨LA, lc, hlv, _, hlx⟩ := hlsl.form
      subst hlv
      have hllk := HLB.out ls[k] (List.getElem_mem hk)
      have HLX := Lib.hid hlx
      clear hbc hlx hlsl
      go_wp2
      go_loopg [9] r.ids.length (fun gh v9 wr => ∃ p : Nat, v9 = .int .i64 p ∧ p ≤ r.ids.length ∧ gh = r.ids.length - p ∧ Hid (∀ y ∈ r.ids.take p, lacks y ls[k].l = false) ∧ Hid (Below w5.heap.size w5 wr))
      case atStart => exact ⟨0, rfl, Nat.zero_le _, rfl, Lib.hid (fun y hy => by simp at hy), Lib.hid (Below.refl _ _)⟩
      case round =>
        obtain ⟨p, rfl, hp, hgp, HI, HBs⟩ := hrel
        have HBo := Lib.hid (HB5.out.trans (HBs.out.mono HB5.out.size))
        have f0 := (HBo.out.cell (p := ⟨g, o + i * 4, none⟩) hg).trans X0.out
        have f1 := (HBo.out.cell (p := ⟨g, o + i * 4 + 1, none⟩) hg).trans X1.out
        have f2 := (HBo.out.cell (p := ⟨g, o + i * 4 + 2, none⟩) hg).trans X2.out
        have f3 := (HBo.out.cell (p := ⟨g, o + i * 4 + 3, none⟩) hg).trans X3.out
        by_cases hpl : p < r.ids.length
        · obtain ⟨ig, io, hia, hig, hicell⟩ := HIC.out (by omega)
          subst hia
          obtain ⟨i0, i1⟩ := hicell p hpl
          have b3 : (0 : Int) ≤ (p : Int) := by omega
          have b4 : (p : Int) < (r.ids.length : Int) := by omega
          obtain ⟨x, hxe⟩ : ∃ x, r.ids[p] = x := ⟨_, rfl⟩
          rw [hxe] at i0 i1
          have HXE := Lib.hid hxe
          obtain ⟨wo, hwo⟩ : ∃ x, x = wr := ⟨_, rfl⟩
          subst hwo
          clear hxe hicell
          go_wp2
          go_loopg [10, 11] ls[k].l.length (fun gh v10 v11 wr => ∃ (q : Nat) (tb : Bool), v10 = .bool tb ∧ v11 = .int .i64 q ∧ q ≤ ls[k].l.length ∧ gh = ls[k].l.length - q ∧ Hid (tb = (ls[k].l.take q).any (fun h => decide (h.id = x))) ∧ Hid (Below wo.heap.size wo wr))
          case atStart => exact ⟨0, false, rfl, rfl, Nat.zero_le _, rfl, Lib.hid rfl, Lib.hid (Below.refl _ _)⟩
          case round =>
            obtain ⟨q, tb, rfl, rfl, hq, hgq, HA, HBq⟩ := hrel
            have HBw := Lib.hid (HBs.out.trans (HBq.out.mono HBs.out.size))
            have HBW := Lib.hid (HB5.out.trans (HBw.out.mono HB5.out.size))
            have s0 := (HBW.out.cell (p := ⟨g, o + i * 4, none⟩) hg).trans X0.out
            have s1 := (HBW.out.cell (p := ⟨g, o + i * 4 + 1, none⟩) hg).trans X1.out
            have s2 := (HBW.out.cell (p := ⟨g, o + i * 4 + 2, none⟩) hg).trans X2.out
            have s3 := (HBW.out.cell (p := ⟨g, o + i * 4 + 3, none⟩) hg).trans X3.out
            have r2 := (HBW.out.cell (p := ⟨bg, bo + k * 3 + 2, none⟩) hbg).trans d2
            by_cases hql : q < ls[k].l.length
            · obtain ⟨hg', ho', hLA, hlg, hlx⟩ := HLX.out (by omega)
              subst hLA
              obtain ⟨l0, l1, _, _⟩ := hlx q hql
              have m0 := (HBW.out.cell (p := ⟨hg', ho' + q * 4, none⟩) hlg).trans l0
              have m1 := (HBW.out.cell (p := ⟨hg', ho' + q * 4 + 1, none⟩) hlg).trans l1
              have n0 := (HBW.out.cell (p := ⟨ig, io + p * 2, none⟩) hig).trans i0
              have n1 := (HBW.out.cell (p := ⟨ig, io + p * 2 + 1, none⟩) hig).trans i1
              have b7 : (0 : Int) ≤ (q : Int) := by omega
              have b8 : (q : Int) < (ls[k].l.length : Int) := by omega
              have HAT := Lib.hid (any_take hql (fun h => decide (h.id = x)))
              generalize ls[k].l[q] = h at *
              clear hlx l0 l1
              cases tb with
              | true =>
                have HA2 : Hid (true = (ls[k].l.take (q + 1)).any (fun h => decide (h.id = x))) := Lib.hid (by rw [HAT.out, ← HA.out]; rfl)
                clear HA
                go_wp2
                go_quiet (fail)
                have hbd := below_drewN (Below.refl wr.heap.size wr) nq
                have HBd := Lib.hid (HBq.out.trans (hbd.mono HBq.out.size))
                clear hbd
                go_wp2
                go_roundg (ls[k].l.length - (q + 1))
                case measure => omega
                case rel => exact ⟨q + 1, true, by rfl, by go_num, hql, rfl, HA2, HBd⟩
              | false =>
                by_cases he : h.id = x
                · obtain ⟨t1, t2⟩ := idq_eqs he
                  have HA2 : Hid (true = (ls[k].l.take (q + 1)).any (fun h => decide (h.id = x))) := Lib.hid (by rw [HAT.out, decide_eq_true he, Bool.or_true])
                  clear he HA
                  go_wp2
                  go_quiet (fail)
                  have hbd := below_drewN (Below.refl wr.heap.size wr) nq
                  have HBd := Lib.hid (HBq.out.trans (hbd.mono HBq.out.size))
                  clear hbd
                  go_wp2
                  go_roundg (ls[k].l.length - (q + 1))
                  case measure => omega
                  case rel => exact ⟨q + 1, true, by rfl, by go_num, hql, rfl, HA2, HBd⟩
                · have HA2 : Hid (false = (ls[k].l.take (q + 1)).any (fun h => decide (h.id = x))) := Lib.hid (by rw [HAT.out, ← HA.out, decide_eq_false he]; rfl)
                  have hne := idq_ne he
                  clear he HA
                  rcases hne with t1 | ⟨t1, t2⟩
                  · skip
                    go_wp2
                    go_quiet (fail)
                    have hbd := below_drewN (Below.refl wr.heap.size wr) nq
                    have HBd := Lib.hid (HBq.out.trans (hbd.mono HBq.out.size))
                    clear hbd
                    go_wp2
                    go_roundg (ls[k].l.length - (q + 1))
                    case measure => omega
                    case rel => exact ⟨q + 1, false, by rfl, by go_num, hql, rfl, HA2, HBd⟩
                  · skip
                    go_wp2
                    go_quiet (fail)
                    have hbd := below_drewN (Below.refl wr.heap.size wr) nq
                    have HBd := Lib.hid (HBq.out.trans (hbd.mono HBq.out.size))
                    clear hbd
                    go_wp2
                    go_roundg (ls[k].l.length - (q + 1))
                    case measure => omega
                    case rel => exact ⟨q + 1, false, by rfl, by go_num, hql, rfl, HA2, HBd⟩
            · obtain rfl : q = ls[k].l.length := by omega
              rw [List.take_length] at HA
              cases tb with
              | true =>
                have HN : Hid (∀ y ∈ r.ids.take (p + 1), lacks y ls[k].l = false) := Lib.hid (fun y hy => by
                  rw [List.take_succ_eq_append_getElem hpl] at hy
                  rcases List.mem_append.1 hy with hy | hy
                  · exact HI.out y hy
                  · rw [List.mem_singleton.1 hy, HXE.out]; unfold lacks; rw [← HA.out]; rfl)
                go_wp2
                go_roundg (r.ids.length - (p + 1))
                case measure => omega
                case rel => exact ⟨p + 1, by go_num, hpl, rfl, HN, HBw⟩
              | false =>
                have HQ : Hid (fileS (prevR fs i) r ls = 5) := Lib.hid (HF.out.trans (thereS_at hk HFD.out (x := x) (by rw [← HXE.out]; exact List.getElem_mem hpl) (by unfold lacks; rw [← HA.out]; rfl)))
                go_wp2
                go_ret
                exact ⟨by rw [HQ.out]; rfl, HBW.out⟩
        · obtain rfl : p = r.ids.length := by omega
          have HQ : Hid (fileS (prevR fs i) r ls = 0) := Lib.hid (HF.out.trans (thereS_all hk HFD.out (fun y hy => HI.out y (by rw [List.take_length]; exact hy))))
          go_wp2
          go_ret
          exact ⟨by rw [HQ.out]; rfl, HBo.out⟩
  · have hcp : (rcpFault r).1 > 0 := by have := HNN.out; omega
    have HF := Lib.hid (fileS_1 (prev := prevR fs i) (ls := ls) hc0)
    clear hc0 hpr
    generalize rcpFault r = F at *
    obtain ⟨c1, t1⟩ := F
    simp only at hcp HF
    go_wp2
    go_ret
    exact ⟨by rw [HF.out]; rfl, HB3.out⟩
set_option maxRecDepth 100000 in
set_option maxHeartbeats 2000000 in
theorem RFileErr_next (vf vb : Value) (fs : List Rcp) (ls : List Load) (hfl : fs.length ≤ 1000000) (hll : ls.length ≤ 1000000) (hlb : ∀ y ∈ ls, y.l.length ≤ 1000000) (i : Nat) (hi : i < fs.length) (hr : RcpB fs[i]) (hi0 : i ≠ 0) (w : World) (hf : RsRd w w.heap.size vf fs) (hl : LdRd w w.heap.size vb ls) :
    Calls Tryz.prog 82 #[vf, .int .i64 (i : Int), vb] w (FeP (fileS (prevR fs i) fs[i] ls) w) := by
  have b1 : (0 : Int) ≤ (i : Int) := by omega
  have b2 : (i : Int) < (fs.length : Int) := by omega
  have hfp : 0 < fs.length := by omega
  have hi0' : 0 < i := Nat.pos_of_ne_zero hi0
  have hi1 : i - 1 < fs.length := by omega
  have b5 : (0 : Int) ≤ (i : Int) - 1 := by omega
  have b6 : (i : Int) - 1 < (fs.length : Int) := by omega
  have b7 : (i : Int) > 0 := by omega
  have b8 : (((i - 1 : Nat)) : Int) = (i : Int) - 1 := by omega
  have hpr : prevR fs i = some fs[i - 1] := by unfold prevR; rw [if_neg hi0, List.getElem?_eq_getElem hi1]
  obtain ⟨A, c, rfl, hcap, hcells⟩ := hf
  obtain ⟨g, o, rfl, hg, hx⟩ := hcells hfp
  obtain ⟨BA, bc, hvb, hbcap, hbx⟩ := id hl
  subst hvb
  obtain ⟨sl, hsl, x0, x1, x2, x3⟩ := hx i hi
  obtain ⟨SA, sc, hsv, _, hic⟩ := hsl.form
  subst hsv
  obtain ⟨psl, _, p0, _, _, _⟩ := hx (i - 1) hi1
  generalize fs[i - 1] = p at *
  have P0 := Lib.hid p0
  clear p0
  generalize hri : fs[i] = r at *
  have HIC := Lib.hid hic
  have HBX := Lib.hid hbx
  have HLD := Lib.hid hl
  have HSL := Lib.hid hsl
  have HLB := Lib.hid hlb
  have X0 := Lib.hid x0
  have X1 := Lib.hid x1
  have X2 := Lib.hid x2
  have X3 := Lib.hid x3
  have hrc := hr.c
  have HRF := Lib.hid (RRecipeFault_any (.agg #[VT r.name, .int .i64 r.len, .int .u32 (r.print : Int), .slice SA r.ids.length sc]) r hr w ⟨_, rfl, hsl⟩)
  have HNN := Lib.hid (rcpFault_nn r)
  have hf0 := Rs_field0
  clear hcells hx hl hsl hr hri hic hbx hlb
  go_enter Tryz.func82, Tryz.ntmps82
  go_wp2_with fail
  unfold FltPost at HRF
  refine HRF.out.mono ?_
  rintro e w3 ⟨rfl, hb3⟩
  have HB3 := Lib.hid hb3
  clear hb3 HRF x0 x1 x2 x3
  by_cases hc0 : (rcpFault r).1 = 0
  · have hcp : ¬ (rcpFault r).1 > 0 := by omega
    rw [rcpFault_two hc0]
    clear hcp
    by_cases hne : r.name = p.name
    · have hlq : ((bs r.name).toList == (bs p.name).toList) = true := by rw [hne]; exact beq_self_eq_true _
      have hlb : Op.bytesLess (bs r.name).toList (bs p.name).toList = false := by rw [hne, ← before_lessB]; exact bytesBefore_irr _
      have HF : Hid (fileS (prevR fs i) r ls = 8) := Lib.hid (by rw [hpr]; exact fileS_2 hc0 (by rw [hne]; exact bytesBefore_irr _))
      clear hne
      have s0 := (HB3.out.cell (p := ⟨g, o + i * 4, none⟩) hg).trans X0.out
      have s1 := (HB3.out.cell (p := ⟨g, o + (i - 1) * 4, none⟩) hg).trans P0.out
      clear hc0 hpr
      go_wp2
      go_quiet (fail)
      have hbd := below_drewN (Below.refl w3.heap.size w3) nq
      have HBd := Lib.hid (HB3.out.trans (hbd.mono HB3.out.size))
      clear hbd
      go_wp2
      go_ret
      exact ⟨by rw [HF.out]; rfl, HBd.out⟩
    · have hlq : ((bs r.name).toList == (bs p.name).toList) = false := by rw [bs_listS, bs_listS]; exact beq_eq_false_iff_ne.2 hne
      rcases bytesBefore_total hne with hbf | hbf
      · have hlb : Op.bytesLess (bs r.name).toList (bs p.name).toList = true := by rw [bs_listS, bs_listS, ← before_lessB]; exact hbf
        have hbn : bytesBefore p.name r.name = false := by
          rw [Bool.eq_false_iff]
          intro h
          have := bytesBefore_trans hbf h
          rw [bytesBefore_irr] at this; cases this
        have HF : Hid (fileS (prevR fs i) r ls = 8) := Lib.hid (by rw [hpr]; exact fileS_2 hc0 hbn)
        clear hne hbf hbn
        have s0 := (HB3.out.cell (p := ⟨g, o + i * 4, none⟩) hg).trans X0.out
        have s1 := (HB3.out.cell (p := ⟨g, o + (i - 1) * 4, none⟩) hg).trans P0.out
        clear hc0 hpr
        go_wp2
        go_quiet (fail)
        have hbd := below_drewN (Below.refl w3.heap.size w3) nq
        have HBd := Lib.hid (HB3.out.trans (hbd.mono HB3.out.size))
        clear hbd
        go_wp2
        go_ret
        exact ⟨by rw [HF.out]; rfl, HBd.out⟩
      · have hlb : Op.bytesLess (bs r.name).toList (bs p.name).toList = false := by
          rw [bs_listS, bs_listS, ← before_lessB, Bool.eq_false_iff]
          intro h
          have := bytesBefore_trans hbf h
          rw [bytesBefore_irr] at this; cases this
        have HF := Lib.hid (fileS_3 (prev := prevR fs i) (ls := ls) hc0 (fun q hq => by rw [hpr] at hq; injection hq with hq; rw [← hq]; exact hbf))
        have s0 := (HB3.out.cell (p := ⟨g, o + i * 4, none⟩) hg).trans X0.out
        have s1 := (HB3.out.cell (p := ⟨g, o + (i - 1) * 4, none⟩) hg).trans P0.out
        clear hc0 hpr hne hbf
        go_wp2
        go_quiet (fail)
        have hbd := below_drewN (Below.refl w3.heap.size w3) nq
        have HBd := Lib.hid (HB3.out.trans (hbd.mono HB3.out.size))
        clear hbd s0 s1 hlq hlb
        generalize w3.drewN nq = wd at *
        have HRP := Lib.hid (RRepOf_any (.agg #[VT r.name, .int .i64 r.len, .int .u32 (r.print : Int), .slice SA r.ids.length sc]) r hrc wd ⟨_, rfl, (HSL.out.keep HBd.out (Nat.le_refl _)).more HBd.out.size⟩)
        have e0 := (HBd.out.cell (p := ⟨g, o + i * 4, none⟩) hg).trans X0.out
        have e1 := (HBd.out.cell (p := ⟨g, o + i * 4 + 1, none⟩) hg).trans X1.out
        have e2 := (HBd.out.cell (p := ⟨g, o + i * 4 + 2, none⟩) hg).trans X2.out
        have e3 := (HBd.out.cell (p := ⟨g, o + i * 4 + 3, none⟩) hg).trans X3.out
        go_wp2_with fail
        refine HRP.out.mono ?_
        rintro e w4 ⟨rfl, hb4⟩
        have HB4 := Lib.hid (HBd.out.trans (hb4.mono HBd.out.size))
        have HFB := Lib.hid (RFindBin_any (.slice BA ls.length bc) ls hll (repOf r.ids) w4 ((HLD.out.keep HB4.out (Nat.le_refl _)).more HB4.out.size))
        clear hb4 HRP e0 e1 e2 e3
        go_wp2_with fail
        refine HFB.out.mono ?_
        rintro e w5 ⟨rfl, hb5⟩
        have HB5 := Lib.hid (HB4.out.trans (hb5.mono HB4.out.size))
        clear hb5 HFB
        rcases ixP_find (fun b : Load => decide (b.rep = repOf r.ids)) ls with ⟨hx1, hx2⟩ | ⟨k, hk, hx1, hx2⟩
        · rw [hx1]
          have HQ := Lib.hid (HF.out.trans (thereS_none hx2))
          clear hx1 hx2
          go_wp2
          go_ret
          exact ⟨by rw [HQ.out]; rfl, HB5.out⟩
        · rw [hx1]
          have HFD := Lib.hid hx2
          have hkn : ¬ ((k : Int) < 0) := by omega
          have hk0 : (0 : Int) ≤ (k : Int) := by omega
          have hkl : (k : Int) < (ls.length : Int) := by omega
          clear hx1 hx2
          obtain ⟨bg, bo, hBA, hbg, hbc⟩ := HBX.out (by omega)
          subst hBA
          obtain ⟨lsl, hlsl, _, _, d2⟩ := hbc k hk
          obtain ⟨LA, lc, hlv, _, hlx⟩ := hlsl.form
          subst hlv
          have hllk := HLB.out ls[k] (List.getElem_mem hk)
          have HLX := Lib.hid hlx
          clear hbc hlx hlsl
          go_wp2
          go_loopg [9] r.ids.length (fun gh v9 wr => ∃ p : Nat, v9 = .int .i64 p ∧ p ≤ r.ids.length ∧ gh = r.ids.length - p ∧ Hid (∀ y ∈ r.ids.take p, lacks y ls[k].l = false) ∧ Hid (Below w5.heap.size w5 wr))
          case atStart => exact ⟨0, rfl, Nat.zero_le _, rfl, Lib.hid (fun y hy => by simp at hy), Lib.hid (Below.refl _ _)⟩
          case round =>
            obtain ⟨p, rfl, hp, hgp, HI, HBs⟩ := hrel
            have HBo := Lib.hid (HB5.out.trans (HBs.out.mono HB5.out.size))
            have f0 := (HBo.out.cell (p := ⟨g, o + i * 4, none⟩) hg).trans X0.out
            have f1 := (HBo.out.cell (p := ⟨g, o + i * 4 + 1, none⟩) hg).trans X1.out
            have f2 := (HBo.out.cell (p := ⟨g, o + i * 4 + 2, none⟩) hg).trans X2.out
            have f3 := (HBo.out.cell (p := ⟨g, o + i * 4 + 3, none⟩) hg).trans X3.out
            by_cases hpl : p < r.ids.length
            · obtain ⟨ig, io, hia, hig, hicell⟩ := HIC.out (by omega)
              subst hia
              obtain ⟨i0, i1⟩ := hicell p hpl
              have b3 : (0 : Int) ≤ (p : Int) := by omega
              have b4 : (p : Int) < (r.ids.length : Int) := by omega
              obtain ⟨x, hxe⟩ : ∃ x, r.ids[p] = x := ⟨_, rfl⟩
              rw [hxe] at i0 i1
              have HXE := Lib.hid hxe
              obtain ⟨wo, hwo⟩ : ∃ x, x = wr := ⟨_, rfl⟩
              subst hwo
              clear hxe hicell
              go_wp2
              go_loopg [10, 11] ls[k].l.length (fun gh v10 v11 wr => ∃ (q : Nat) (tb : Bool), v10 = .bool tb ∧ v11 = .int .i64 q ∧ q ≤ ls[k].l.length ∧ gh = ls[k].l.length - q ∧ Hid (tb = (ls[k].l.take q).any (fun h => decide (h.id = x))) ∧ Hid (Below wo.heap.size wo wr))
              case atStart => exact ⟨0, false, rfl, rfl, Nat.zero_le _, rfl, Lib.hid rfl, Lib.hid (Below.refl _ _)⟩
              case round =>
                obtain ⟨q, tb, rfl, rfl, hq, hgq, HA, HBq⟩ := hrel
                have HBw := Lib.hid (HBs.out.trans (HBq.out.mono HBs.out.size))
                have HBW := Lib.hid (HB5.out.trans (HBw.out.mono HB5.out.size))
                have s0 := (HBW.out.cell (p := ⟨g, o + i * 4, none⟩) hg).trans X0.out
                have s1 := (HBW.out.cell (p := ⟨g, o + i * 4 + 1, none⟩) hg).trans X1.out
                have s2 := (HBW.out.cell (p := ⟨g, o + i * 4 + 2, none⟩) hg).trans X2.out
                have s3 := (HBW.out.cell (p := ⟨g, o + i * 4 + 3, none⟩) hg).trans X3.out
                have r2 := (HBW.out.cell (p := ⟨bg, bo + k * 3 + 2, none⟩) hbg).trans d2
                by_cases hql : q < ls[k].l.length
                · obtain ⟨hg', ho', hLA, hlg, hlx⟩ := HLX.out (by omega)
                  subst hLA
                  obtain ⟨l0, l1, _, _⟩ := hlx q hql
                  have m0 := (HBW.out.cell (p := ⟨hg', ho' + q * 4, none⟩) hlg).trans l0
                  have m1 := (HBW.out.cell (p := ⟨hg', ho' + q * 4 + 1, none⟩) hlg).trans l1
                  have n0 := (HBW.out.cell (p := ⟨ig, io + p * 2, none⟩) hig).trans i0
                  have n1 := (HBW.out.cell (p := ⟨ig, io + p * 2 + 1, none⟩) hig).trans i1
                  have b7 : (0 : Int) ≤ (q : Int) := by omega
                  have b8 : (q : Int) < (ls[k].l.length : Int) := by omega
                  have HAT := Lib.hid (any_take hql (fun h => decide (h.id = x)))
                  generalize ls[k].l[q] = h at *
                  clear hlx l0 l1
                  cases tb with
                  | true =>
                    have HA2 : Hid (true = (ls[k].l.take (q + 1)).any (fun h => decide (h.id = x))) := Lib.hid (by rw [HAT.out, ← HA.out]; rfl)
                    clear HA
                    go_wp2
                    go_quiet (fail)
                    have hbd := below_drewN (Below.refl wr.heap.size wr) nq
                    have HBd := Lib.hid (HBq.out.trans (hbd.mono HBq.out.size))
                    clear hbd
                    go_wp2
                    go_roundg (ls[k].l.length - (q + 1))
                    case measure => omega
                    case rel => exact ⟨q + 1, true, by rfl, by go_num, hql, rfl, HA2, HBd⟩
                  | false =>
                    by_cases he : h.id = x
                    · obtain ⟨t1, t2⟩ := idq_eqs he
                      have HA2 : Hid (true = (ls[k].l.take (q + 1)).any (fun h => decide (h.id = x))) := Lib.hid (by rw [HAT.out, decide_eq_true he, Bool.or_true])
                      clear he HA
                      go_wp2
                      go_quiet (fail)
                      have hbd := below_drewN (Below.refl wr.heap.size wr) nq
                      have HBd := Lib.hid (HBq.out.trans (hbd.mono HBq.out.size))
                      clear hbd
                      go_wp2
                      go_roundg (ls[k].l.length - (q + 1))
                      case measure => omega
                      case rel => exact ⟨q + 1, true, by rfl, by go_num, hql, rfl, HA2, HBd⟩
                    · have HA2 : Hid (false = (ls[k].l.take (q + 1)).any (fun h => decide (h.id = x))) := Lib.hid (by rw [HAT.out, ← HA.out, decide_eq_false he]; rfl)
                      have hne := idq_ne he
                      clear he HA
                      rcases hne with t1 | ⟨t1, t2⟩
                      · skip
                        go_wp2
                        go_quiet (fail)
                        have hbd := below_drewN (Below.refl wr.heap.size wr) nq
                        have HBd := Lib.hid (HBq.out.trans (hbd.mono HBq.out.size))
                        clear hbd
                        go_wp2
                        go_roundg (ls[k].l.length - (q + 1))
                        case measure => omega
                        case rel => exact ⟨q + 1, false, by rfl, by go_num, hql, rfl, HA2, HBd⟩
                      · skip
                        go_wp2
                        go_quiet (fail)
                        have hbd := below_drewN (Below.refl wr.heap.size wr) nq
                        have HBd := Lib.hid (HBq.out.trans (hbd.mono HBq.out.size))
                        clear hbd
                        go_wp2
                        go_roundg (ls[k].l.length - (q + 1))
                        case measure => omega
                        case rel => exact ⟨q + 1, false, by rfl, by go_num, hql, rfl, HA2, HBd⟩
                · obtain rfl : q = ls[k].l.length := by omega
                  rw [List.take_length] at HA
                  cases tb with
                  | true =>
                    have HN : Hid (∀ y ∈ r.ids.take (p + 1), lacks y ls[k].l = false) := Lib.hid (fun y hy => by
                      rw [List.take_succ_eq_append_getElem hpl] at hy
                      rcases List.mem_append.1 hy with hy | hy
                      · exact HI.out y hy
                      · rw [List.mem_singleton.1 hy, HXE.out]; unfold lacks; rw [← HA.out]; rfl)
                    go_wp2
                    go_roundg (r.ids.length - (p + 1))
                    case measure => omega
                    case rel => exact ⟨p + 1, by go_num, hpl, rfl, HN, HBw⟩
                  | false =>
                    have HQ : Hid (fileS (prevR fs i) r ls = 5) := Lib.hid (HF.out.trans (thereS_at hk HFD.out (x := x) (by rw [← HXE.out]; exact List.getElem_mem hpl) (by unfold lacks; rw [← HA.out]; rfl)))
                    go_wp2
                    go_ret
                    exact ⟨by rw [HQ.out]; rfl, HBW.out⟩
            · obtain rfl : p = r.ids.length := by omega
              have HQ : Hid (fileS (prevR fs i) r ls = 0) := Lib.hid (HF.out.trans (thereS_all hk HFD.out (fun y hy => HI.out y (by rw [List.take_length]; exact hy))))
              go_wp2
              go_ret
              exact ⟨by rw [HQ.out]; rfl, HBo.out⟩
  · have hcp : (rcpFault r).1 > 0 := by have := HNN.out; omega
    have HF := Lib.hid (fileS_1 (prev := prevR fs i) (ls := ls) hc0)
    clear hc0 hpr
    generalize rcpFault r = F at *
    obtain ⟨c1, t1⟩ := F
    simp only at hcp HF
    go_wp2
    go_ret
    exact ⟨by rw [HF.out]; rfl, HB3.out⟩
theorem RFileErr_any (vf vb : Value) (fs : List Rcp) (ls : List Load) (hfl : fs.length ≤ 1000000) (hll : ls.length ≤ 1000000) (hlb : ∀ y ∈ ls, y.l.length ≤ 1000000) (i : Nat) (hi : i < fs.length) (hr : RcpB fs[i]) (w : World) (hf : RsRd w w.heap.size vf fs) (hl : LdRd w w.heap.size vb ls) :
    Calls Tryz.prog 82 #[vf, .int .i64 (i : Int), vb] w (FeP (fileS (prevR fs i) fs[i] ls) w) := by
  by_cases hi0 : i = 0
  · exact RFileErr_first vf vb fs ls hfl hll hlb i hi hr hi0 w hf hl
  · exact RFileErr_next vf vb fs ls hfl hll hlb i hi hr hi0 w hf hl
end Go.Proofs.YtpanoplcamdnkaaGreatDoor
/- Walk of the reference's binError. No conditions but bounds. -/
namespace Go.Proofs.YtpanoplcamdnkaaGreatDoor
open Go.RowKit Go.Lib

theorem markAt_nn (L : HldL) (k : Nat) (h : Hld) : 0 ≤ markAt L k h := by
  unfold markAt markB
  split
  · decide
  · split
    · split <;> decide
    · decide
theorem useS_bnd2 {fs : List Rcp} (c : Nat) (hi : ∀ r ∈ fs, r.ids.length ≤ c) (x y : Idn) : 0 ≤ useS fs x y ∧ useS fs x y ≤ c * fs.length := by
  unfold useS
  induction fs with
  | nil => simp
  | cons r t ih =>
    have h1 := ih (fun z hz => hi z (List.mem_cons_of_mem _ hz))
    have h2 := hi r List.mem_cons_self
    have h3 : r.ids.count y ≤ r.ids.length := List.count_le_length
    rw [List.map_cons, List.sum_cons, List.length_cons]
    have h4 : (c : Int) * ((t.length + 1 : Nat) : Int) = c * t.length + c := by rw [Int.natCast_add, Int.mul_add]; simp
    rw [h4]
    split <;> omega
theorem useS_yes {fs : List Rcp} {k : Nat} (hk : k < fs.length) {x y : Idn} (h : repOf fs[k].ids = x) : useS (fs.take (k + 1)) x y = useS (fs.take k) x y + (fs[k].ids.count y : Int) := by rw [useS_succ hk, if_pos h]
theorem useS_no {fs : List Rcp} {k : Nat} (hk : k < fs.length) {x y : Idn} (h : repOf fs[k].ids ≠ x) : useS (fs.take (k + 1)) x y = useS (fs.take k) x y := by rw [useS_succ hk, if_neg h, Int.add_zero]
set_option maxRecDepth 100000 in
set_option maxHeartbeats 3000000 in
theorem RBinErr_any (vf sl : Value) (fs : List Rcp) (hfl : fs.length ≤ 1000000) (hrc : ∀ r ∈ fs, r.ids.length ≤ 1000000) (y : Load) (hl : y.l.length ≤ 1000000) (htx : ∀ x ∈ y.l, x.text.length ≤ 2 ^ 40) (w : World) (hf : RsRd w w.heap.size vf fs) (hsl : RdL w w.heap.size sl y.l) :
    Calls Tryz.prog 83 #[vf, ldV y sl] w (FeP (oneS fs y.rep y.l) w) := by
  obtain ⟨A, c, rfl, hcap, hcells⟩ := hf
  obtain ⟨LA, lc, rfl, hlcap, hlx⟩ := hsl.form
  have hb1 : Below w.heap.size w (w.alloc (.cells #[.int .u32 (y.rep.1 : Int), .int .i64 y.rep.2, .slice LA y.l.length lc] 70)) := (Below.refl _ _).alloc (Nat.le_refl _) _
  have BX1 := Lib.hid (Box3.mk' w (.int .u32 (y.rep.1 : Int)) (.int .i64 y.rep.2) (.slice LA y.l.length lc) 70)
  have HX := Lib.hid hcells
  have HLX := Lib.hid hlx
  have HSY := Lib.hid hsl
  have HB1 := Lib.hid hb1
  have HRC := Lib.hid hrc
  have HTX := Lib.hid htx
  clear hcells hlx hsl hb1 hrc htx
  go_enter Tryz.func83, Tryz.ntmps83
  go_wp2
  generalize (w.alloc (.cells #[.int .u32 (y.rep.1 : Int), .int .i64 y.rep.2, .slice LA y.l.length lc] 70)) = w1 at *
  go_loopg [5, 6] fs.length (fun gh v5 v6 wr => ∃ k : Nat, v6 = .int .i64 k ∧ v5 = .int .i64 (nS (fs.take k) y.rep : Nat) ∧ k ≤ fs.length ∧ gh = fs.length - k ∧ Hid (Below w1.heap.size w1 wr))
  case atStart => exact ⟨0, rfl, rfl, Nat.zero_le _, rfl, Lib.hid (Below.refl _ _)⟩
  case round =>
    obtain ⟨k, rfl, rfl, hk, hgm, HBr⟩ := hrel
    have HBw := Lib.hid (HB1.out.trans (HBr.out.mono HB1.out.size))
    have BXr := Lib.hid (BX1.out.below HBr.out BX1.out.lt)
    by_cases hkl : k < fs.length
    · obtain ⟨g, o, rfl, hg, hx⟩ := HX.out (by omega)
      obtain ⟨sl, hsl, x0, x1, x2, x3⟩ := hx k hkl
      obtain ⟨SA, sc, hsv, _⟩ := hsl.form
      subst hsv
      have hgr : g < wr.heap.size := Nat.lt_of_lt_of_le hg HBw.out.size
      have C0 := Lib.hid ((HBw.out.cell (p := ⟨g, o + k * 4, none⟩) hg).trans x0)
      have C1 := Lib.hid ((HBw.out.cell (p := ⟨g, o + k * 4 + 1, none⟩) hg).trans x1)
      have C2 := Lib.hid ((HBw.out.cell (p := ⟨g, o + k * 4 + 2, none⟩) hg).trans x2)
      have C3 := Lib.hid ((HBw.out.cell (p := ⟨g, o + k * 4 + 3, none⟩) hg).trans x3)
      have HSr := Lib.hid ((hsl.keep HBw.out (Nat.le_refl _)).more HBw.out.size)
      have hrc := HRC.out fs[k] (List.getElem_mem hkl)
      have HNY := Lib.hid (fun h => nS_yes hkl (x := y.rep) h)
      have HNN := Lib.hid (fun h => nS_no hkl (x := y.rep) h)
      have hnb : nS (fs.take k) y.rep ≤ k := Nat.le_trans (nS_le _ _) (by rw [List.length_take]; omega)
      generalize fs[k] = r at *
      have b1 : (0 : Int) ≤ (k : Int) := by omega
      have b2 : (k : Int) < (fs.length : Int) := by omega
      clear hx x0 x1 x2 x3 hsl
      by_cases he : repOf r.ids = y.rep
      · obtain ⟨t1, t2⟩ := idq_eqs he
        have HN := Lib.hid (HNY.out he)
        clear he
        go_wp2
        have hS0 : Below wr.heap.size wr wr.drew := (Below.refl _ _).drew
        refine region_S (fun w' => Below wr.heap.size wr w') 7 (by kernel_rfl) (by kernel_rfl) ?_
        refine take_S 0 rfl (by kernel_rfl) (by kernel_rfl) hS0 (fun w' hS => by go_simp; rfl) ?_
        refine take_S 1 rfl (by kernel_rfl) (by kernel_rfl) hS0 (fun w' hS => by go_simp; rfl) ?_
        refine take_S 2 rfl (by kernel_rfl) (by kernel_rfl) hS0 (fun w' hS => by go_simp; rfl) ?_
        refine take_S 3 rfl (by kernel_rfl) (by kernel_rfl) hS0 (fun w' hS => by have A0 := (hS.cell (p := ⟨g, o + k * 4, none⟩) hgr).trans C0.out; have A1 := (hS.cell (p := ⟨g, o + k * 4 + 1, none⟩) hgr).trans C1.out; have A2 := (hS.cell (p := ⟨g, o + k * 4 + 2, none⟩) hgr).trans C2.out; have A3 := (hS.cell (p := ⟨g, o + k * 4 + 3, none⟩) hgr).trans C3.out; go_simp; rfl) ?_
        refine take_S 5 rfl (by kernel_rfl) (by kernel_rfl) hS0 (fun w' hS => by go_simp; rfl) ?_
        refine take_S 6 rfl (by kernel_rfl) (by kernel_rfl) hS0 (fun w' hS => by obtain ⟨A0, A1, A2⟩ := BXr.out.below hS BXr.out.lt; go_simp; rfl) ?_
        refine carry_S 4 rfl (by kernel_rfl) (by decide) (by kernel_rfl) (fun K hK => ?_)
        go_simp
        refine (RRepOf_any (.agg #[VT r.name, .int .i64 r.len, .int .u32 (r.print : Int), .slice SA r.ids.length sc]) r hrc _ ⟨_, rfl, (HSr.out.keep hS0 (Nat.le_refl _)).more hS0.size⟩).mono ?_
        rintro e w4 ⟨rfl, hbw4⟩
        have hS1 : Below wr.heap.size wr w4 := hS0.trans (hbw4.mono hS0.size)
        refine hK _ _ hS1 (forced_S (by kernel_rfl) ?_)
        clear hK K
        try simp only [Act.put, List.getElem_toArray, List.getElem_cons_succ, List.getElem_cons_zero, List.setIfInBounds_toArray, List.set_cons_zero, List.set_cons_succ]
        try simp only [Act.put, List.getElem_toArray, List.getElem_cons_succ, List.getElem_cons_zero, List.setIfInBounds_toArray, List.set_cons_zero, List.set_cons_succ]
        simp only [List.drop_succ_cons, List.drop_zero]
        have HBd := Lib.hid (HBr.out.trans (hS1.mono HBr.out.size))
        clear hS0 hS1 hbw4
        go_wp2
        go_roundg (fs.length - (k + 1))
        case measure => omega
        case rel => exact ⟨k + 1, by go_num, by rw [HN.out]; go_num, hkl, rfl, HBd⟩
      · have HN := Lib.hid (HNN.out he)
        have hne := idq_ne he
        clear he
        rcases hne with t1 | ⟨t1, t2⟩
        · skip
          go_wp2
          have hS0 : Below wr.heap.size wr wr.drew := (Below.refl _ _).drew
          refine region_S (fun w' => Below wr.heap.size wr w') 7 (by kernel_rfl) (by kernel_rfl) ?_
          refine take_S 0 rfl (by kernel_rfl) (by kernel_rfl) hS0 (fun w' hS => by go_simp; rfl) ?_
          refine take_S 1 rfl (by kernel_rfl) (by kernel_rfl) hS0 (fun w' hS => by go_simp; rfl) ?_
          refine take_S 2 rfl (by kernel_rfl) (by kernel_rfl) hS0 (fun w' hS => by go_simp; rfl) ?_
          refine take_S 3 rfl (by kernel_rfl) (by kernel_rfl) hS0 (fun w' hS => by have A0 := (hS.cell (p := ⟨g, o + k * 4, none⟩) hgr).trans C0.out; have A1 := (hS.cell (p := ⟨g, o + k * 4 + 1, none⟩) hgr).trans C1.out; have A2 := (hS.cell (p := ⟨g, o + k * 4 + 2, none⟩) hgr).trans C2.out; have A3 := (hS.cell (p := ⟨g, o + k * 4 + 3, none⟩) hgr).trans C3.out; go_simp; rfl) ?_
          refine take_S 5 rfl (by kernel_rfl) (by kernel_rfl) hS0 (fun w' hS => by go_simp; rfl) ?_
          refine take_S 6 rfl (by kernel_rfl) (by kernel_rfl) hS0 (fun w' hS => by obtain ⟨A0, A1, A2⟩ := BXr.out.below hS BXr.out.lt; go_simp; rfl) ?_
          refine carry_S 4 rfl (by kernel_rfl) (by decide) (by kernel_rfl) (fun K hK => ?_)
          go_simp
          refine (RRepOf_any (.agg #[VT r.name, .int .i64 r.len, .int .u32 (r.print : Int), .slice SA r.ids.length sc]) r hrc _ ⟨_, rfl, (HSr.out.keep hS0 (Nat.le_refl _)).more hS0.size⟩).mono ?_
          rintro e w4 ⟨rfl, hbw4⟩
          have hS1 : Below wr.heap.size wr w4 := hS0.trans (hbw4.mono hS0.size)
          refine hK _ _ hS1 (forced_S (by kernel_rfl) ?_)
          clear hK K
          try simp only [Act.put, List.getElem_toArray, List.getElem_cons_succ, List.getElem_cons_zero, List.setIfInBounds_toArray, List.set_cons_zero, List.set_cons_succ]
          try simp only [Act.put, List.getElem_toArray, List.getElem_cons_succ, List.getElem_cons_zero, List.setIfInBounds_toArray, List.set_cons_zero, List.set_cons_succ]
          simp only [List.drop_succ_cons, List.drop_zero]
          have HBd := Lib.hid (HBr.out.trans (hS1.mono HBr.out.size))
          clear hS0 hS1 hbw4
          go_wp2
          go_roundg (fs.length - (k + 1))
          case measure => omega
          case rel => exact ⟨k + 1, by go_num, by rw [HN.out], hkl, rfl, HBd⟩
        · skip
          go_wp2
          have hS0 : Below wr.heap.size wr wr.drew := (Below.refl _ _).drew
          refine region_S (fun w' => Below wr.heap.size wr w') 7 (by kernel_rfl) (by kernel_rfl) ?_
          refine take_S 0 rfl (by kernel_rfl) (by kernel_rfl) hS0 (fun w' hS => by go_simp; rfl) ?_
          refine take_S 1 rfl (by kernel_rfl) (by kernel_rfl) hS0 (fun w' hS => by go_simp; rfl) ?_
          refine take_S 2 rfl (by kernel_rfl) (by kernel_rfl) hS0 (fun w' hS => by go_simp; rfl) ?_
          refine take_S 3 rfl (by kernel_rfl) (by kernel_rfl) hS0 (fun w' hS => by have A0 := (hS.cell (p := ⟨g, o + k * 4, none⟩) hgr).trans C0.out; have A1 := (hS.cell (p := ⟨g, o + k * 4 + 1, none⟩) hgr).trans C1.out; have A2 := (hS.cell (p := ⟨g, o + k * 4 + 2, none⟩) hgr).trans C2.out; have A3 := (hS.cell (p := ⟨g, o + k * 4 + 3, none⟩) hgr).trans C3.out; go_simp; rfl) ?_
          refine take_S 5 rfl (by kernel_rfl) (by kernel_rfl) hS0 (fun w' hS => by go_simp; rfl) ?_
          refine take_S 6 rfl (by kernel_rfl) (by kernel_rfl) hS0 (fun w' hS => by obtain ⟨A0, A1, A2⟩ := BXr.out.below hS BXr.out.lt; go_simp; rfl) ?_
          refine carry_S 4 rfl (by kernel_rfl) (by decide) (by kernel_rfl) (fun K hK => ?_)
          go_simp
          refine (RRepOf_any (.agg #[VT r.name, .int .i64 r.len, .int .u32 (r.print : Int), .slice SA r.ids.length sc]) r hrc _ ⟨_, rfl, (HSr.out.keep hS0 (Nat.le_refl _)).more hS0.size⟩).mono ?_
          rintro e w4 ⟨rfl, hbw4⟩
          have hS1 : Below wr.heap.size wr w4 := hS0.trans (hbw4.mono hS0.size)
          refine hK _ _ hS1 (forced_S (by kernel_rfl) ?_)
          clear hK K
          try simp only [Act.put, List.getElem_toArray, List.getElem_cons_succ, List.getElem_cons_zero, List.setIfInBounds_toArray, List.set_cons_zero, List.set_cons_succ]
          try simp only [Act.put, List.getElem_toArray, List.getElem_cons_succ, List.getElem_cons_zero, List.setIfInBounds_toArray, List.set_cons_zero, List.set_cons_succ]
          simp only [List.drop_succ_cons, List.drop_zero]
          have HBd := Lib.hid (HBr.out.trans (hS1.mono HBr.out.size))
          clear hS0 hS1 hbw4
          go_wp2
          go_roundg (fs.length - (k + 1))
          case measure => omega
          case rel => exact ⟨k + 1, by go_num, by rw [HN.out], hkl, rfl, HBd⟩
    · obtain rfl : k = fs.length := by omega
      have HTL : Hid (fs.take fs.length = fs) := Lib.hid List.take_length
      rw [HTL.out]
      obtain ⟨wo, hwo⟩ : ∃ x, x = wr := ⟨_, rfl⟩
      subst hwo
      by_cases hn0 : nS fs y.rep = 0
      · have hi0 : (((nS fs y.rep : Nat) : Int) == 0) = true := by rw [hn0]; rfl
        have hi1 : ((nS fs y.rep : Nat) : Int) = 0 := by omega
        have HQ : Hid (oneS fs y.rep y.l = 3) := Lib.hid (if_pos hn0)
        clear hn0
        go_wp2
        go_ret
        exact ⟨by rw [HQ.out]; rfl, HBw.out⟩
      · have hi0 : (((nS fs y.rep : Nat) : Int) == 0) = false := by rw [beq_eq_false_iff_ne]; omega
        have hi1 : ¬ ((nS fs y.rep : Nat) : Int) = 0 := by omega
        have HON : Hid (oneS fs y.rep y.l = oneL fs y.rep none y.l) := Lib.hid (if_neg hn0)
        have hnb := nS_le fs y.rep
        clear hn0
        generalize nS fs y.rep = nn at *
        have HB1o := HBr
        go_wp2
        go_loopg [7] y.l.length (fun gh v7 wr => ∃ i : Nat, v7 = .int .i64 i ∧ i ≤ y.l.length ∧ gh = y.l.length - i ∧ Hid (oneL fs y.rep none y.l = oneL fs y.rep (prevH y.l i) (y.l.drop i)) ∧ Hid (Below w1.heap.size w1 wr))
        case atStart => exact ⟨0, rfl, Nat.zero_le _, rfl, Lib.hid rfl, HB1o⟩
        case round =>
          clear HBr HBw BXr
          obtain ⟨i, rfl, hi, hgi, HOK, HBr⟩ := hrel
          have HBw := Lib.hid (HB1.out.trans (HBr.out.mono HB1.out.size))
          have BXr := Lib.hid (BX1.out.below HBr.out BX1.out.lt)
          obtain ⟨z0, z1, z2⟩ := BXr.out
          by_cases hil : i < y.l.length
          · obtain ⟨hg', ho', rfl, hlg, hlx⟩ := HLX.out (by omega)
            obtain ⟨l0, l1, l2, l3⟩ := hlx i hil
            have b3 : (0 : Int) ≤ (i : Int) := by omega
            have b4 : (i : Int) < (y.l.length : Int) := by omega
            have HMK := Lib.hid (RMarked_any (.slice (some ⟨hg', ho', none⟩) y.l.length lc) y.l (by omega) (fun x hx => HTX.out x hx) i hil wr.heap.size wr ((HSY.out.keep HBw.out (Nat.le_refl _)).more HBw.out.size) (Nat.le_refl _))
            have hmn := markAt_nn y.l i y.l[i]
            obtain ⟨h, hh⟩ : ∃ h, y.l[i] = h := ⟨_, rfl⟩
            rw [hh] at l0 l1 l2 l3
            have HLE := Lib.hid hh
            have L0 := Lib.hid l0
            have L1 := Lib.hid l1
            have L2 := Lib.hid l2
            clear hlx l0 l1 l2 l3 hh
            obtain ⟨wo, hwo⟩ : ∃ x, x = wr := ⟨_, rfl⟩
            subst hwo
            by_cases hm : markAt y.l i y.l[i] = 0
            · have HM0 := Lib.hid hm
              rw [hm] at HMK
              clear hm hmn
              go_wp2_with fail
              refine HMK.out.mono ?_
              rintro e w5 ⟨rfl, hb5⟩
              have HB5 := Lib.hid (HBr.out.trans (hb5.mono HBr.out.size))
              clear hb5 HMK
              go_wp2
              go_loopg [9, 10] fs.length (fun gh v9 v10 wr => ∃ (k : Nat) (u : Int), v9 = .int .i64 u ∧ v10 = .int .i64 k ∧ k ≤ fs.length ∧ gh = fs.length - k ∧ Hid (u = useS (fs.take k) y.rep h.id) ∧ Hid (Below w5.heap.size w5 wr))
              case atStart => exact ⟨0, 0, rfl, rfl, Nat.zero_le _, rfl, Lib.hid rfl, Lib.hid (Below.refl _ _)⟩
              case round =>
                obtain ⟨k, u, rfl, rfl, hk, hgk, HU, HBq⟩ := hrel
                have HBr := Lib.hid (HB5.out.trans (HBq.out.mono HB5.out.size))
                have HBw := Lib.hid (HB1.out.trans (HBr.out.mono HB1.out.size))
                have BXr := Lib.hid (BX1.out.below HBr.out BX1.out.lt)
                by_cases hkl : k < fs.length
                · obtain ⟨g, o, rfl, hg, hx⟩ := HX.out (by omega)
                  obtain ⟨sl, hsl, x0, x1, x2, x3⟩ := hx k hkl
                  obtain ⟨SA, sc, hsv, _⟩ := hsl.form
                  subst hsv
                  have hgr : g < wr.heap.size := Nat.lt_of_lt_of_le hg HBw.out.size
                  have C0 := Lib.hid ((HBw.out.cell (p := ⟨g, o + k * 4, none⟩) hg).trans x0)
                  have C1 := Lib.hid ((HBw.out.cell (p := ⟨g, o + k * 4 + 1, none⟩) hg).trans x1)
                  have C2 := Lib.hid ((HBw.out.cell (p := ⟨g, o + k * 4 + 2, none⟩) hg).trans x2)
                  have C3 := Lib.hid ((HBw.out.cell (p := ⟨g, o + k * 4 + 3, none⟩) hg).trans x3)
                  have HSr := Lib.hid ((hsl.keep HBw.out (Nat.le_refl _)).more HBw.out.size)
                  have hrc := HRC.out fs[k] (List.getElem_mem hkl)
                  have HUY := Lib.hid (fun e0 => useS_yes hkl (x := y.rep) (y := h.id) e0)
                  have HUN := Lib.hid (fun e0 => useS_no hkl (x := y.rep) (y := h.id) e0)
                  have hub := useS_bnd2 (fs := fs.take k) 1000000 (fun r hr => HRC.out r (List.mem_of_mem_take hr)) y.rep h.id
                  have hub2 : (1000000 : Int) * ((fs.take k).length : Int) ≤ 1000000000000 := by rw [List.length_take]; omega
                  have hct : fs[k].ids.count h.id ≤ 1000000 := Nat.le_trans List.count_le_length hrc
                  have hue := HU.out
                  have hu0 : 0 ≤ u := by rw [hue]; exact hub.1
                  have hu1 : u ≤ 1000000000000 := by rw [hue]; exact Int.le_trans hub.2 hub2
                  generalize fs[k] = r at *
                  have b1 : (0 : Int) ≤ (k : Int) := by omega
                  have b2 : (k : Int) < (fs.length : Int) := by omega
                  have HWR : Hid (IntKind.i64.wrap (u + (r.ids.count h.id : Nat)) = u + (r.ids.count h.id : Nat)) := Lib.hid (IntWalk.i64_in _ (by omega))
                  have X0 := Lib.hid x0
                  have X1 := Lib.hid x1
                  have X2 := Lib.hid x2
                  have X3 := Lib.hid x3
                  clear hx x0 x1 x2 x3 hsl hub hub2 hue
                  by_cases he : repOf r.ids = y.rep
                  · obtain ⟨t1, t2⟩ := idq_eqs he
                    have HN := Lib.hid (HUY.out he)
                    clear he
                    go_wp2
                    have hS0 : Below wr.heap.size wr wr.drew := (Below.refl _ _).drew
                    refine region_S (fun w' => Below wr.heap.size wr w') 7 (by kernel_rfl) (by kernel_rfl) ?_
                    refine take_S 0 rfl (by kernel_rfl) (by kernel_rfl) hS0 (fun w' hS => by go_simp; rfl) ?_
                    refine take_S 1 rfl (by kernel_rfl) (by kernel_rfl) hS0 (fun w' hS => by go_simp; rfl) ?_
                    refine take_S 2 rfl (by kernel_rfl) (by kernel_rfl) hS0 (fun w' hS => by go_simp; rfl) ?_
                    refine take_S 3 rfl (by kernel_rfl) (by kernel_rfl) hS0 (fun w' hS => by have A0 := (hS.cell (p := ⟨g, o + k * 4, none⟩) hgr).trans C0.out; have A1 := (hS.cell (p := ⟨g, o + k * 4 + 1, none⟩) hgr).trans C1.out; have A2 := (hS.cell (p := ⟨g, o + k * 4 + 2, none⟩) hgr).trans C2.out; have A3 := (hS.cell (p := ⟨g, o + k * 4 + 3, none⟩) hgr).trans C3.out; go_simp; rfl) ?_
                    refine take_S 5 rfl (by kernel_rfl) (by kernel_rfl) hS0 (fun w' hS => by go_simp; rfl) ?_
                    refine take_S 6 rfl (by kernel_rfl) (by kernel_rfl) hS0 (fun w' hS => by obtain ⟨A0, A1, A2⟩ := BXr.out.below hS BXr.out.lt; go_simp; rfl) ?_
                    refine carry_S 4 rfl (by kernel_rfl) (by decide) (by kernel_rfl) (fun K hK => ?_)
                    go_simp
                    refine (RRepOf_any (.agg #[VT r.name, .int .i64 r.len, .int .u32 (r.print : Int), .slice SA r.ids.length sc]) r hrc _ ⟨_, rfl, (HSr.out.keep hS0 (Nat.le_refl _)).more hS0.size⟩).mono ?_
                    rintro e w4 ⟨rfl, hbw4⟩
                    have hS1 : Below wr.heap.size wr w4 := hS0.trans (hbw4.mono hS0.size)
                    refine hK _ _ hS1 (forced_S (by kernel_rfl) ?_)
                    clear hK K
                    try simp only [Act.put, List.getElem_toArray, List.getElem_cons_succ, List.getElem_cons_zero, List.setIfInBounds_toArray, List.set_cons_zero, List.set_cons_succ]
                    try simp only [Act.put, List.getElem_toArray, List.getElem_cons_succ, List.getElem_cons_zero, List.setIfInBounds_toArray, List.set_cons_zero, List.set_cons_succ]
                    simp only [List.drop_succ_cons, List.drop_zero]
                    have HBd := Lib.hid (HBq.out.trans (hS1.mono HBq.out.size))
                    have HBdw := Lib.hid (HBw.out.trans (hS1.mono HBw.out.size))
                    have BX4 := Lib.hid (BXr.out.below hS1 BXr.out.lt)
                    have HS4 := Lib.hid ((HSr.out.keep hS1 (Nat.le_refl _)).more hS1.size)
                    have hg4 : g < w4.heap.size := Nat.lt_of_lt_of_le hg HBdw.out.size
                    have hlg4 : hg' < w4.heap.size := Nat.lt_of_lt_of_le hlg HBdw.out.size
                    have E0 := Lib.hid ((HBdw.out.cell (p := ⟨g, o + k * 4, none⟩) hg).trans X0.out)
                    have E1 := Lib.hid ((HBdw.out.cell (p := ⟨g, o + k * 4 + 1, none⟩) hg).trans X1.out)
                    have E2 := Lib.hid ((HBdw.out.cell (p := ⟨g, o + k * 4 + 2, none⟩) hg).trans X2.out)
                    have E3 := Lib.hid ((HBdw.out.cell (p := ⟨g, o + k * 4 + 3, none⟩) hg).trans X3.out)
                    have H0 := Lib.hid ((HBdw.out.cell (p := ⟨hg', ho' + i * 4, none⟩) hlg).trans L0.out)
                    have H1 := Lib.hid ((HBdw.out.cell (p := ⟨hg', ho' + i * 4 + 1, none⟩) hlg).trans L1.out)
                    clear hS0 hS1 hbw4
                    go_wp2
                    have hT0 : Below w4.heap.size w4 w4.drew := (Below.refl _ _).drew
                    refine region_S (fun w' => Below w4.heap.size w4 w') 13 (by kernel_rfl) (by kernel_rfl) ?_
                    refine take_S 0 rfl (by kernel_rfl) (by kernel_rfl) hT0 (fun w' hS => by go_simp; rfl) ?_
                    refine take_S 1 rfl (by kernel_rfl) (by kernel_rfl) hT0 (fun w' hS => by go_simp; rfl) ?_
                    refine take_S 2 rfl (by kernel_rfl) (by kernel_rfl) hT0 (fun w' hS => by go_simp; rfl) ?_
                    refine take_S 3 rfl (by kernel_rfl) (by kernel_rfl) hT0 (fun w' hS => by go_simp; rfl) ?_
                    refine take_S 4 rfl (by kernel_rfl) (by kernel_rfl) hT0 (fun w' hS => by have A0 := (hS.cell (p := ⟨g, o + k * 4, none⟩) hg4).trans E0.out; have A1 := (hS.cell (p := ⟨g, o + k * 4 + 1, none⟩) hg4).trans E1.out; have A2 := (hS.cell (p := ⟨g, o + k * 4 + 2, none⟩) hg4).trans E2.out; have A3 := (hS.cell (p := ⟨g, o + k * 4 + 3, none⟩) hg4).trans E3.out; go_simp; rfl) ?_
                    refine take_S 5 rfl (by kernel_rfl) (by kernel_rfl) hT0 (fun w' hS => by go_simp; rfl) ?_
                    refine take_S 6 rfl (by kernel_rfl) (by kernel_rfl) hT0 (fun w' hS => by obtain ⟨A0, A1, A2⟩ := BX4.out.below hS BX4.out.lt; go_simp; rfl) ?_
                    refine take_S 7 rfl (by kernel_rfl) (by kernel_rfl) hT0 (fun w' hS => by go_simp; rfl) ?_
                    refine take_S 8 rfl (by kernel_rfl) (by kernel_rfl) hT0 (fun w' hS => by go_simp; rfl) ?_
                    refine take_S 9 rfl (by kernel_rfl) (by kernel_rfl) hT0 (fun w' hS => by go_simp; rfl) ?_
                    refine take_S 10 rfl (by kernel_rfl) (by kernel_rfl) hT0 (fun w' hS => by have A0 := (hS.cell (p := ⟨hg', ho' + i * 4, none⟩) hlg4).trans H0.out; have A1 := (hS.cell (p := ⟨hg', ho' + i * 4 + 1, none⟩) hlg4).trans H1.out; go_simp; rfl) ?_
                    refine carry_S 11 rfl (by kernel_rfl) (by decide) (by kernel_rfl) (fun K hK => ?_)
                    go_simp
                    refine (RTimes_any (.agg #[VT r.name, .int .i64 r.len, .int .u32 (r.print : Int), .slice SA r.ids.length sc]) r hrc h.id _ ⟨_, rfl, (HS4.out.keep hT0 (Nat.le_refl _)).more hT0.size⟩).mono ?_
                    rintro e w5 ⟨rfl, hbw5⟩
                    have hT1 : Below w4.heap.size w4 w5 := hT0.trans (hbw5.mono hT0.size)
                    refine hK _ _ hT1 ?_
                    clear hK K
                    try simp only [Act.put, List.getElem_toArray, List.getElem_cons_succ, List.getElem_cons_zero, List.setIfInBounds_toArray, List.set_cons_zero, List.set_cons_succ]
                    refine take_S 12 (v := .int .i64 (u + (r.ids.count h.id : Nat))) rfl (by kernel_rfl) (by kernel_rfl) hT1 (fun w' hS => by have W := HWR.out; go_simp) (forced_S (by kernel_rfl) ?_)
                    try simp only [Act.put, List.getElem_toArray, List.getElem_cons_succ, List.getElem_cons_zero, List.setIfInBounds_toArray, List.set_cons_zero, List.set_cons_succ]
                    simp only [List.drop_succ_cons, List.drop_zero]
                    have HBe := Lib.hid (HBd.out.trans (hT1.mono HBd.out.size))
                    have HU2 : Hid (u + (r.ids.count h.id : Nat) = useS (fs.take (k + 1)) y.rep h.id) := Lib.hid (by rw [HN.out, ← HU.out])
                    clear hT0 hT1 hbw5
                    go_wp2
                    go_roundg (fs.length - (k + 1))
                    case measure => omega
                    case rel => exact ⟨k + 1, u + (r.ids.count h.id : Nat), by rfl, by go_num, hkl, rfl, HU2, HBe⟩
                  · have HN := Lib.hid (HUN.out he)
                    have hne := idq_ne he
                    clear he
                    rcases hne with t1 | ⟨t1, t2⟩
                    · skip
                      go_wp2
                      have hS0 : Below wr.heap.size wr wr.drew := (Below.refl _ _).drew
                      refine region_S (fun w' => Below wr.heap.size wr w') 7 (by kernel_rfl) (by kernel_rfl) ?_
                      refine take_S 0 rfl (by kernel_rfl) (by kernel_rfl) hS0 (fun w' hS => by go_simp; rfl) ?_
                      refine take_S 1 rfl (by kernel_rfl) (by kernel_rfl) hS0 (fun w' hS => by go_simp; rfl) ?_
                      refine take_S 2 rfl (by kernel_rfl) (by kernel_rfl) hS0 (fun w' hS => by go_simp; rfl) ?_
                      refine take_S 3 rfl (by kernel_rfl) (by kernel_rfl) hS0 (fun w' hS => by have A0 := (hS.cell (p := ⟨g, o + k * 4, none⟩) hgr).trans C0.out; have A1 := (hS.cell (p := ⟨g, o + k * 4 + 1, none⟩) hgr).trans C1.out; have A2 := (hS.cell (p := ⟨g, o + k * 4 + 2, none⟩) hgr).trans C2.out; have A3 := (hS.cell (p := ⟨g, o + k * 4 + 3, none⟩) hgr).trans C3.out; go_simp; rfl) ?_
                      refine take_S 5 rfl (by kernel_rfl) (by kernel_rfl) hS0 (fun w' hS => by go_simp; rfl) ?_
                      refine take_S 6 rfl (by kernel_rfl) (by kernel_rfl) hS0 (fun w' hS => by obtain ⟨A0, A1, A2⟩ := BXr.out.below hS BXr.out.lt; go_simp; rfl) ?_
                      refine carry_S 4 rfl (by kernel_rfl) (by decide) (by kernel_rfl) (fun K hK => ?_)
                      go_simp
                      refine (RRepOf_any (.agg #[VT r.name, .int .i64 r.len, .int .u32 (r.print : Int), .slice SA r.ids.length sc]) r hrc _ ⟨_, rfl, (HSr.out.keep hS0 (Nat.le_refl _)).more hS0.size⟩).mono ?_
                      rintro e w4 ⟨rfl, hbw4⟩
                      have hS1 : Below wr.heap.size wr w4 := hS0.trans (hbw4.mono hS0.size)
                      refine hK _ _ hS1 (forced_S (by kernel_rfl) ?_)
                      clear hK K
                      try simp only [Act.put, List.getElem_toArray, List.getElem_cons_succ, List.getElem_cons_zero, List.setIfInBounds_toArray, List.set_cons_zero, List.set_cons_succ]
                      try simp only [Act.put, List.getElem_toArray, List.getElem_cons_succ, List.getElem_cons_zero, List.setIfInBounds_toArray, List.set_cons_zero, List.set_cons_succ]
                      simp only [List.drop_succ_cons, List.drop_zero]
                      have HBd := Lib.hid (HBq.out.trans (hS1.mono HBq.out.size))
                      have HU2 : Hid (u = useS (fs.take (k + 1)) y.rep h.id) := Lib.hid (by rw [HN.out, ← HU.out])
                      clear hS0 hS1 hbw4
                      go_wp2
                      go_roundg (fs.length - (k + 1))
                      case measure => omega
                      case rel => exact ⟨k + 1, u, by rfl, by go_num, hkl, rfl, HU2, HBd⟩
                    · skip
                      go_wp2
                      have hS0 : Below wr.heap.size wr wr.drew := (Below.refl _ _).drew
                      refine region_S (fun w' => Below wr.heap.size wr w') 7 (by kernel_rfl) (by kernel_rfl) ?_
                      refine take_S 0 rfl (by kernel_rfl) (by kernel_rfl) hS0 (fun w' hS => by go_simp; rfl) ?_
                      refine take_S 1 rfl (by kernel_rfl) (by kernel_rfl) hS0 (fun w' hS => by go_simp; rfl) ?_
                      refine take_S 2 rfl (by kernel_rfl) (by kernel_rfl) hS0 (fun w' hS => by go_simp; rfl) ?_
                      refine take_S 3 rfl (by kernel_rfl) (by kernel_rfl) hS0 (fun w' hS => by have A0 := (hS.cell (p := ⟨g, o + k * 4, none⟩) hgr).trans C0.out; have A1 := (hS.cell (p := ⟨g, o + k * 4 + 1, none⟩) hgr).trans C1.out; have A2 := (hS.cell (p := ⟨g, o + k * 4 + 2, none⟩) hgr).trans C2.out; have A3 := (hS.cell (p := ⟨g, o + k * 4 + 3, none⟩) hgr).trans C3.out; go_simp; rfl) ?_
                      refine take_S 5 rfl (by kernel_rfl) (by kernel_rfl) hS0 (fun w' hS => by go_simp; rfl) ?_
                      refine take_S 6 rfl (by kernel_rfl) (by kernel_rfl) hS0 (fun w' hS => by obtain ⟨A0, A1, A2⟩ := BXr.out.below hS BXr.out.lt; go_simp; rfl) ?_
                      refine carry_S 4 rfl (by kernel_rfl) (by decide) (by kernel_rfl) (fun K hK => ?_)
                      go_simp
                      refine (RRepOf_any (.agg #[VT r.name, .int .i64 r.len, .int .u32 (r.print : Int), .slice SA r.ids.length sc]) r hrc _ ⟨_, rfl, (HSr.out.keep hS0 (Nat.le_refl _)).more hS0.size⟩).mono ?_
                      rintro e w4 ⟨rfl, hbw4⟩
                      have hS1 : Below wr.heap.size wr w4 := hS0.trans (hbw4.mono hS0.size)
                      refine hK _ _ hS1 (forced_S (by kernel_rfl) ?_)
                      clear hK K
                      try simp only [Act.put, List.getElem_toArray, List.getElem_cons_succ, List.getElem_cons_zero, List.setIfInBounds_toArray, List.set_cons_zero, List.set_cons_succ]
                      try simp only [Act.put, List.getElem_toArray, List.getElem_cons_succ, List.getElem_cons_zero, List.setIfInBounds_toArray, List.set_cons_zero, List.set_cons_succ]
                      simp only [List.drop_succ_cons, List.drop_zero]
                      have HBd := Lib.hid (HBq.out.trans (hS1.mono HBq.out.size))
                      have HU2 : Hid (u = useS (fs.take (k + 1)) y.rep h.id) := Lib.hid (by rw [HN.out, ← HU.out])
                      clear hS0 hS1 hbw4
                      go_wp2
                      go_roundg (fs.length - (k + 1))
                      case measure => omega
                      case rel => exact ⟨k + 1, u, by rfl, by go_num, hkl, rfl, HU2, HBd⟩
                · obtain rfl : k = fs.length := by omega
                  rw [List.take_length] at HU
                  have m2 := (HBw.out.cell (p := ⟨hg', ho' + i * 4 + 2, none⟩) hlg).trans L2.out
                  obtain ⟨z0, z1, z2⟩ := BXr.out
                  by_cases hu : h.uses = useS fs y.rep h.id
                  · have HN2 := Lib.hid (HOK.out.trans (oneL_next (fs := fs) (x := y.rep) hil HM0.out (HLE.out.symm ▸ hu)))
                    have u1 : (u != h.uses) = false := by rw [bne_eq_false_iff_eq, HU.out, hu]
                    have u2 : (u == h.uses) = true := by rw [beq_iff_eq, HU.out, hu]
                    clear hu
                    go_wp2
                    go_roundg (y.l.length - (i + 1))
                    case measure => omega
                    case rel => exact ⟨i + 1, by go_num, hil, rfl, HN2, HBr⟩
                  · have HQ := Lib.hid (HON.out.trans (HOK.out.trans (oneL_used (fs := fs) (x := y.rep) hil HM0.out (HLE.out.symm ▸ hu))))
                    have u1 : (u != h.uses) = true := by rw [bne_iff_ne, HU.out]; exact fun e => hu e.symm
                    have u2 : (u == h.uses) = false := by rw [beq_eq_false_iff_ne, HU.out]; exact fun e => hu e.symm
                    clear hu
                    go_wp2
                    go_ret
                    exact ⟨by rw [HQ.out]; rfl, HBw.out⟩
            · have HQ := Lib.hid (HON.out.trans (HOK.out.trans (oneL_mark (fs := fs) (x := y.rep) hil rfl hm)))
              have hmp : markAt y.l i y.l[i] > 0 := by omega
              clear hm hmn
              generalize markAt y.l i y.l[i] = mc at *
              go_wp2_with fail
              refine HMK.out.mono ?_
              rintro e w5 ⟨rfl, hb5⟩
              have HB5 := Lib.hid (HBw.out.trans (hb5.mono HBw.out.size))
              clear hb5 HMK
              go_wp2
              go_ret
              exact ⟨by rw [HQ.out]; rfl, HB5.out⟩
          · obtain rfl : i = y.l.length := by omega
            have HQ := Lib.hid (HON.out.trans (HOK.out.trans (oneL_end fs y.rep _ y.l)))
            go_wp2
            go_ret
            exact ⟨by rw [HQ.out]; rfl, HBw.out⟩
end Go.Proofs.YtpanoplcamdnkaaGreatDoor
/- Walk of the reference's ScrubFault. No conditions but bounds. -/
namespace Go.Proofs.YtpanoplcamdnkaaGreatDoor
open Go.RowKit Go.Lib

theorem thereS_nn (r : Rcp) (ls : List Load) : 0 ≤ thereS r ls := by
  unfold thereS
  split
  · decide
  · split <;> decide
theorem fileS_nn (q : Option Rcp) (r : Rcp) (ls : List Load) : 0 ≤ fileS q r ls := by
  by_cases h : (rcpFault r).1 = 0
  · cases q with
    | none => rw [fileS_3 h (fun p hp => by cases hp)]; exact thereS_nn r ls
    | some p =>
      cases hb : bytesBefore p.name r.name with
      | true => rw [fileS_3 h (fun q hq => by injection hq with hq; rw [← hq]; exact hb)]; exact thereS_nn r ls
      | false => rw [fileS_2 h hb]; decide
  · rw [fileS_1 h]; exact rcpFault_nn r
theorem markB_nn (q : Option Hld) (h : Hld) : 0 ≤ markB q h := by
  unfold markB
  split
  · decide
  · split
    · split <;> decide
    · decide
theorem oneL_nn (fs : List Rcp) (x : Idn) : ∀ (l : HldL) (q : Option Hld), 0 ≤ oneL fs x q l
  | [], _ => Int.le_refl _
  | h :: r, q => by
    unfold oneL
    split
    · exact markB_nn q h
    · split
      · decide
      · exact oneL_nn fs x r _
theorem oneS_nn (fs : List Rcp) (x : Idn) (l : HldL) : 0 ≤ oneS fs x l := by
  unfold oneS
  split
  · decide
  · exact oneL_nn _ _ _ _
def SfP (F : Int × Int) (w : World) (e : Ending) (w' : World) : Prop := e = .returned (fltV F) ∧ Below w.heap.size w w'
set_option maxRecDepth 100000 in
set_option maxHeartbeats 3000000 in
theorem RScrubF_any (vf vb : Value) (fs : List Rcp) (ls : List Load) (hfl : fs.length ≤ 1000000) (hrb : ∀ r ∈ fs, RcpB r) (hll : ls.length ≤ 1000000) (hlb : ∀ y ∈ ls, y.l.length ≤ 1000000) (hlw : ∀ y ∈ ls, ∀ x ∈ y.l, x.text.length ≤ 2 ^ 40) (w : World) (hf : RsRd w w.heap.size vf fs) (hl : LdRd w w.heap.size vb ls) :
    Calls Tryz.prog 38 #[vf, vb] w (SfP (checkS fs ls) w) := by
  obtain ⟨FA, fc, hvf, _⟩ := id hf
  obtain ⟨A, c, hvl, hcap, hcells⟩ := id hl
  have hb0 : Below w.heap.size w (w.alloc (.cells #[.int .i64 0, .int .i64 0] 76)) := (Below.refl _ w).alloc (Nat.le_refl _) _
  have BX0 := Lib.hid (Box2.mk' w (.int .i64 0) (.int .i64 0) 76)
  have HB0 := Lib.hid hb0
  have HF := Lib.hid hf
  have HLD := Lib.hid hl
  have HRB := Lib.hid hrb
  have HLB := Lib.hid hlb
  have HLW := Lib.hid hlw
  have HC := Lib.hid hcells
  subst hvf
  subst hvl
  clear hf hl hrb hlw hcells hb0
  by_cases h30 : 30 < fs.length
  · have h30i : (fs.length : Int) > 30 := by omega
    have HCK : Hid (checkS fs ls = (7, -1)) := Lib.hid (if_pos h30)
    clear h30
    go_enter Tryz.func38, Tryz.ntmps38
    go_wp2_with fail
    refine (RBareF_any 7 _).mono ?_
    rintro e w1 ⟨rfl, hb1⟩
    obtain ⟨x0, x1, g0, g1⟩ := BX0.out.below hb1 BX0.out.lt
    have HB1 := Lib.hid (HB0.out.trans (hb1.mono HB0.out.size))
    obtain ⟨t0, t1, t2⟩ := (BX0.out.below hb1 BX0.out.lt).rd (.int .i64 7) (.int .i64 (-1))
    clear hb1
    go_wp2
    refine bodyPost_ret (v := fltV (7, -1)) (by simp [results, Tryz.results38, go_sem, t0, t1]) rfl ?_
    exact ⟨by rw [HCK.out]; try rfl, (HB1.out.setCell (p := ⟨w.heap.size, 0, none⟩) (Nat.le_refl _) _).setCell (p := ⟨w.heap.size, 1, none⟩) (Nat.le_refl _) _⟩
  · have h30i : ¬ (fs.length : Int) > 30 := by omega
    have HC1 : Hid (checkS fs ls = if (filesL ls none 0 fs).1 ≠ 0 then filesL ls none 0 fs else loadsL fs none 0 ls) := Lib.hid (if_neg h30)
    clear h30
    go_enter Tryz.func38, Tryz.ntmps38
    go_wp2
    generalize (w.alloc (.cells #[.int .i64 0, .int .i64 0] 76)) = w0 at *
    go_loopg [5] fs.length (fun gh v5 wr => ∃ k : Nat, v5 = .int .i64 k ∧ k ≤ fs.length ∧ gh = fs.length - k ∧ Hid (filesL ls none 0 fs = filesL ls (prevR fs k) k (fs.drop k)) ∧ Hid (Below w0.heap.size w0 wr))
    case atStart => exact ⟨0, rfl, Nat.zero_le _, rfl, Lib.hid rfl, Lib.hid (Below.refl _ _)⟩
    case round =>
      obtain ⟨k, rfl, hk, hgm, HFK, HBr⟩ := hrel
      have HBw := Lib.hid (HB0.out.trans (HBr.out.mono HB0.out.size))
      by_cases hkl : k < fs.length
      · have b1 : (0 : Int) ≤ (k : Int) := by omega
        have b2 : (k : Int) < (fs.length : Int) := by omega
        have HSF := Lib.hid (RFileErr_any (.slice FA fs.length fc) (.slice A ls.length c) fs ls hfl hll HLB.out k hkl (HRB.out _ (List.getElem_mem hkl)) wr ((HF.out.keep HBw.out (Nat.le_refl _)).more HBw.out.size) ((HLD.out.keep HBw.out (Nat.le_refl _)).more HBw.out.size))
        have hnn := fileS_nn (prevR fs k) fs[k] ls
        unfold FeP at HSF
        go_wp2_with fail
        refine HSF.out.mono ?_
        rintro e w4 ⟨rfl, hb4⟩
        have HB4 := Lib.hid (HBr.out.trans (hb4.mono HBr.out.size))
        have HB4w := Lib.hid (HBw.out.trans (hb4.mono HBw.out.size))
        clear hb4 HSF
        by_cases hc : fileS (prevR fs k) fs[k] ls = 0
        · have HN := Lib.hid (HFK.out.trans ((filesL_drop hkl).trans (if_neg (by rw [hc]; simp))))
          rw [hc]
          clear hc hnn
          go_wp2
          go_roundg (fs.length - (k + 1))
          case measure => omega
          case rel => exact ⟨k + 1, by go_num, hkl, rfl, HN, HB4⟩
        · have HCK := Lib.hid (HFK.out.trans ((filesL_drop hkl).trans (if_pos hc)))
          have HQ : Hid (checkS fs ls = (fileS (prevR fs k) fs[k] ls, (k : Int))) := Lib.hid (by rw [HC1.out, HCK.out, if_pos hc])
          have hcp : fileS (prevR fs k) fs[k] ls > 0 := by omega
          have BX4 := Lib.hid ((BX0.out.below HB4.out BX0.out.lt))
          clear hc hnn HCK HFK HC1
          generalize fileS (prevR fs k) fs[k] ls = oc at *
          obtain ⟨x0, x1, g0, g1⟩ := BX4.out
          obtain ⟨t0, t1, t2⟩ := BX4.out.rd (.int .i64 oc) (.int .i64 (k : Int))
          go_wp2
          refine bodyPost_ret (v := fltV (oc, (k : Int))) (by simp [results, Tryz.results38, go_sem, t0, t1]) rfl ?_
          exact ⟨by rw [HQ.out]; try rfl, (HB4w.out.setCell (p := ⟨w.heap.size, 0, none⟩) (Nat.le_refl _) _).setCell (p := ⟨w.heap.size, 1, none⟩) (Nat.le_refl _) _⟩
      · obtain rfl : k = fs.length := by omega
        have HCK : Hid (checkS fs ls = loadsL fs none 0 ls) := Lib.hid (by
          have h := HFK.out
          rw [filesL_end] at h
          rw [HC1.out, h, if_neg (by simp)])
        have HBs := HBr
        obtain ⟨wo, hwo⟩ : ∃ x, x = wr := ⟨_, rfl⟩
        subst hwo
        clear HFK HC1 hk hgm HBr HBw
        go_wp2
        go_loopg [7] ls.length (fun gh v7 wr => ∃ k : Nat, v7 = .int .i64 k ∧ k ≤ ls.length ∧ gh = ls.length - k ∧ Hid (loadsL fs none 0 ls = loadsL fs (prevL ls k) k (ls.drop k)) ∧ Hid (Below w0.heap.size w0 wr))
        case atStart => exact ⟨0, rfl, Nat.zero_le _, rfl, Lib.hid rfl, HBs⟩
        case round =>
          obtain ⟨k, rfl, hk, hgm, HLK, HBq⟩ := hrel
          have HBw := Lib.hid (HB0.out.trans (HBq.out.mono HB0.out.size))
          by_cases hkl : k < ls.length
          · obtain ⟨g, o, rfl, hg, hx⟩ := HC.out (by omega)
            obtain ⟨sl, hsl, x0, x1, x2⟩ := hx k hkl
            obtain ⟨SA, sc, hsv, _⟩ := hsl.form
            subst hsv
            have y0 := (HBw.out.cell (p := ⟨g, o + k * 3, none⟩) hg).trans x0
            have y1 := (HBw.out.cell (p := ⟨g, o + k * 3 + 1, none⟩) hg).trans x1
            have y2 := (HBw.out.cell (p := ⟨g, o + k * 3 + 2, none⟩) hg).trans x2
            have hyl := HLB.out ls[k] (List.getElem_mem hkl)
            have hyw := HLW.out ls[k] (List.getElem_mem hkl)
            have b1 : (0 : Int) ≤ (k : Int) := by omega
            have b2 : (k : Int) < (ls.length : Int) := by omega
            obtain ⟨y, hy⟩ : ∃ y, ls[k] = y := ⟨_, rfl⟩
            rw [hy] at hsl x0 x1 x2 y0 y1 y2 hyl hyw
            have HY := Lib.hid hy
            have X0 := Lib.hid x0
            have X1 := Lib.hid x1
            have HOC := Lib.hid (RBinErr_any (.slice FA fs.length fc) (.slice SA y.l.length sc) fs hfl (fun r hr => (HRB.out r hr).c) y hyl hyw wr ((HF.out.keep HBw.out (Nat.le_refl _)).more HBw.out.size) ((hsl.keep HBw.out (Nat.le_refl _)).more HBw.out.size))
            unfold FeP at HOC
            clear x0 x1 x2 hsl hyl hyw hy
            go_wp2_with fail
            refine HOC.out.mono ?_
            rintro e w5 ⟨rfl, hb5⟩
            have HB5 := Lib.hid (HBq.out.trans (hb5.mono HBq.out.size))
            have HBW5 := Lib.hid (HBw.out.trans (hb5.mono HBw.out.size))
            have BX5 := Lib.hid (BX0.out.below HB5.out BX0.out.lt)
            clear hb5 HOC y0 y1 y2
            by_cases hk0 : k = 0
            · have hpl : prevL ls k = none := if_pos hk0
              have HL0 := Lib.hid (fun (hc : oneS fs y.rep y.l = 0) => HLK.out.trans ((loadsL_drop hkl).trans (if_neg (by rw [hpl, HY.out, loadS_first, hc]; simp))))
              have HLc := Lib.hid (fun (hc : oneS fs y.rep y.l ≠ 0) => HCK.out.trans (HLK.out.trans ((loadsL_drop hkl).trans ((if_pos (by rw [hpl, HY.out, loadS_first]; exact hc)).trans (by rw [hpl, HY.out, loadS_first])))))
              have b7 : ¬ ((k : Int) > 0) := by omega
              clear hk0 hpl
              by_cases hc : oneS fs y.rep y.l = 0
              · have hcp : ¬ oneS fs y.rep y.l > 0 := by omega
                have HN2 := Lib.hid (HL0.out hc)
                clear hc
                generalize oneS fs y.rep y.l = oc at *
                go_wp2
                go_roundg (ls.length - (k + 1))
                case measure => omega
                case rel => exact ⟨k + 1, by go_num, hkl, rfl, HN2, HB5⟩
              · have hcp : oneS fs y.rep y.l > 0 := by have := oneS_nn fs y.rep y.l; omega
                have HQ := Lib.hid (HLc.out hc)
                clear hc
                generalize oneS fs y.rep y.l = oc at *
                have HBf := Lib.hid (HB0.out.trans (HB5.out.mono HB0.out.size))
                obtain ⟨x0, x1, g0, g1⟩ := BX5.out
                obtain ⟨t0, t1, t2⟩ := BX5.out.rd (.int .i64 oc) (.int .i64 (k : Int))
                go_wp2
                refine bodyPost_ret (v := fltV (oc, (k : Int))) (by simp [results, Tryz.results38, go_sem, t0, t1]) rfl ?_
                exact ⟨by rw [HQ.out]; try rfl, (HBf.out.setCell (p := ⟨w.heap.size, 0, none⟩) (Nat.le_refl _) _).setCell (p := ⟨w.heap.size, 1, none⟩) (Nat.le_refl _) _⟩
            · obtain ⟨j, rfl⟩ : ∃ j, k = j + 1 := ⟨k - 1, by omega⟩
              obtain ⟨_, _, d0, d1, _⟩ := hx j (by omega)
              have hg5 : g < w5.heap.size := Nat.lt_of_lt_of_le hg HBW5.out.size
              have D0 := Lib.hid ((HBW5.out.cell (p := ⟨g, o + j * 3, none⟩) hg).trans d0)
              have D1 := Lib.hid ((HBW5.out.cell (p := ⟨g, o + j * 3 + 1, none⟩) hg).trans d1)
              have E0 := Lib.hid ((HBW5.out.cell (p := ⟨g, o + (j + 1) * 3, none⟩) hg).trans X0.out)
              have E1 := Lib.hid ((HBW5.out.cell (p := ⟨g, o + (j + 1) * 3 + 1, none⟩) hg).trans X1.out)
              have hpl : prevL ls (j + 1) = some ls[j] := prevL_next (by omega)
              generalize hlj : ls[j] = p at *
              have b3 : (j : Int) + 1 > 0 := by omega
              have HWR : Hid (IntKind.i64.wrap (j : Int) = (j : Int)) := Lib.hid (IntWalk.i64_in _ (by omega))
              have b4 : (j : Int) < (ls.length : Int) := by omega
              have b5 : j < ls.length := by omega
              have b6 : (0 : Int) ≤ (j : Int) + 1 := by omega
              have b8 : (j : Int) + 1 < (ls.length : Int) := by omega
              clear d0 d1 hk0 hlj hx
              cases hlt : lesser p.rep y.rep with
              | true =>
                have HLT : Hid (lessId p.rep.1 y.rep.1 p.rep.2 y.rep.2 = true) := Lib.hid hlt
                have HL0 := Lib.hid (fun (hc : oneS fs y.rep y.l = 0) => HLK.out.trans ((loadsL_drop hkl).trans (if_neg (by rw [hpl, HY.out, loadS_next, if_pos hlt, hc]; simp))))
                have HLc := Lib.hid (fun (hc : oneS fs y.rep y.l ≠ 0) => HCK.out.trans (HLK.out.trans ((loadsL_drop hkl).trans ((if_pos (by rw [hpl, HY.out, loadS_next, if_pos hlt]; exact hc)).trans (by rw [hpl, HY.out, loadS_next, if_pos hlt])))))
                clear hlt hpl
                go_wp2
                have hT0 : Below w5.heap.size w5 w5.drew := (Below.refl _ _).drew
                refine region_S (fun w' => Below w5.heap.size w5 w') 12 (by kernel_rfl) (by kernel_rfl) ?_
                refine take_S 0 rfl (by kernel_rfl) (by kernel_rfl) hT0 (fun w' hS => by go_simp; rfl) ?_
                refine take_S 1 rfl (by kernel_rfl) (by kernel_rfl) hT0 (fun w' hS => by go_simp; rfl) ?_
                refine take_S 2 (v := .int .i64 (j : Int)) rfl (by kernel_rfl) (by kernel_rfl) hT0 (fun w' hS => by have W1 := b3; have W2 := HWR.out; go_simp) ?_
                refine take_S 3 rfl (by kernel_rfl) (by kernel_rfl) hT0 (fun w' hS => by go_simp; rfl) ?_
                refine take_S 4 rfl (by kernel_rfl) (by kernel_rfl) hT0 (fun w' hS => by go_simp; rfl) ?_
                refine take_S 5 rfl (by kernel_rfl) (by kernel_rfl) hT0 (fun w' hS => by have A0 := (hS.cell (p := ⟨g, o + j * 3, none⟩) hg5).trans D0.out; have A1 := (hS.cell (p := ⟨g, o + j * 3 + 1, none⟩) hg5).trans D1.out; go_simp; rfl) ?_
                refine take_S 6 rfl (by kernel_rfl) (by kernel_rfl) hT0 (fun w' hS => by go_simp; rfl) ?_
                refine take_S 7 rfl (by kernel_rfl) (by kernel_rfl) hT0 (fun w' hS => by go_simp; rfl) ?_
                refine take_S 8 rfl (by kernel_rfl) (by kernel_rfl) hT0 (fun w' hS => by go_simp; rfl) ?_
                refine take_S 9 rfl (by kernel_rfl) (by kernel_rfl) hT0 (fun w' hS => by go_simp; rfl) ?_
                refine take_S 10 rfl (by kernel_rfl) (by kernel_rfl) hT0 (fun w' hS => by have A0 := (hS.cell (p := ⟨g, o + (j + 1) * 3, none⟩) hg5).trans E0.out; have A1 := (hS.cell (p := ⟨g, o + (j + 1) * 3 + 1, none⟩) hg5).trans E1.out; go_simp; rfl) ?_
                refine carry_S 11 rfl (by kernel_rfl) (by decide) (by kernel_rfl) (fun K hK => ?_)
                go_simp
                refine (RIsLess_any p.rep.1 y.rep.1 p.rep.2 y.rep.2 _).mono ?_
                rintro e w6 ⟨rfl, hbw6⟩
                have hT1 : Below w5.heap.size w5 w6 := hT0.trans (hbw6.mono hT0.size)
                refine hK _ _ hT1 (forced_S (by kernel_rfl) ?_)
                clear hK K
                try simp only [Act.put, List.getElem_toArray, List.getElem_cons_succ, List.getElem_cons_zero, List.setIfInBounds_toArray, List.set_cons_zero, List.set_cons_succ]
                try simp only [Act.put, List.getElem_toArray, List.getElem_cons_succ, List.getElem_cons_zero, List.setIfInBounds_toArray, List.set_cons_zero, List.set_cons_succ]
                simp only [List.drop_succ_cons, List.drop_zero]
                rw [HLT.out]
                have HB7 := Lib.hid (HB5.out.trans (hT1.mono HB5.out.size))
                have BX7 := Lib.hid (BX5.out.below hT1 BX5.out.lt)
                clear hT0 hT1 hbw6
                by_cases hc : oneS fs y.rep y.l = 0
                · have hcp : ¬ oneS fs y.rep y.l > 0 := by omega
                  have HN2 := Lib.hid (HL0.out hc)
                  clear hc
                  generalize oneS fs y.rep y.l = oc at *
                  go_wp2
                  go_roundg (ls.length - (j + 1 + 1))
                  case measure => omega
                  case rel => exact ⟨j + 1 + 1, by go_num, hkl, rfl, HN2, HB7⟩
                · have hcp : oneS fs y.rep y.l > 0 := by have := oneS_nn fs y.rep y.l; omega
                  have HQ := Lib.hid (HLc.out hc)
                  clear hc
                  generalize oneS fs y.rep y.l = oc at *
                  have HBf := Lib.hid (HB0.out.trans (HB7.out.mono HB0.out.size))
                  obtain ⟨x0, x1, g0, g1⟩ := BX7.out
                  obtain ⟨t0, t1, t2⟩ := BX7.out.rd (.int .i64 oc) (.int .i64 ((j : Int) + 1))
                  go_wp2
                  refine bodyPost_ret (v := fltV (oc, ((j : Int) + 1))) (by simp [results, Tryz.results38, go_sem, t0, t1]) rfl ?_
                  exact ⟨by rw [HQ.out]; try rfl, (HBf.out.setCell (p := ⟨w.heap.size, 0, none⟩) (Nat.le_refl _) _).setCell (p := ⟨w.heap.size, 1, none⟩) (Nat.le_refl _) _⟩
              | false =>
                have HLT : Hid (lessId p.rep.1 y.rep.1 p.rep.2 y.rep.2 = false) := Lib.hid hlt
                have HQ := Lib.hid (HCK.out.trans (HLK.out.trans ((loadsL_drop hkl).trans ((if_pos (by rw [hpl, HY.out, loadS_next, if_neg (by rw [hlt]; simp)]; simp)).trans (by rw [hpl, HY.out, loadS_next, if_neg (by rw [hlt]; simp)])))))
                clear hlt hpl
                go_wp2
                have hT0 : Below w5.heap.size w5 w5.drew := (Below.refl _ _).drew
                refine region_S (fun w' => Below w5.heap.size w5 w') 12 (by kernel_rfl) (by kernel_rfl) ?_
                refine take_S 0 rfl (by kernel_rfl) (by kernel_rfl) hT0 (fun w' hS => by go_simp; rfl) ?_
                refine take_S 1 rfl (by kernel_rfl) (by kernel_rfl) hT0 (fun w' hS => by go_simp; rfl) ?_
                refine take_S 2 (v := .int .i64 (j : Int)) rfl (by kernel_rfl) (by kernel_rfl) hT0 (fun w' hS => by have W1 := b3; have W2 := HWR.out; go_simp) ?_
                refine take_S 3 rfl (by kernel_rfl) (by kernel_rfl) hT0 (fun w' hS => by go_simp; rfl) ?_
                refine take_S 4 rfl (by kernel_rfl) (by kernel_rfl) hT0 (fun w' hS => by go_simp; rfl) ?_
                refine take_S 5 rfl (by kernel_rfl) (by kernel_rfl) hT0 (fun w' hS => by have A0 := (hS.cell (p := ⟨g, o + j * 3, none⟩) hg5).trans D0.out; have A1 := (hS.cell (p := ⟨g, o + j * 3 + 1, none⟩) hg5).trans D1.out; go_simp; rfl) ?_
                refine take_S 6 rfl (by kernel_rfl) (by kernel_rfl) hT0 (fun w' hS => by go_simp; rfl) ?_
                refine take_S 7 rfl (by kernel_rfl) (by kernel_rfl) hT0 (fun w' hS => by go_simp; rfl) ?_
                refine take_S 8 rfl (by kernel_rfl) (by kernel_rfl) hT0 (fun w' hS => by go_simp; rfl) ?_
                refine take_S 9 rfl (by kernel_rfl) (by kernel_rfl) hT0 (fun w' hS => by go_simp; rfl) ?_
                refine take_S 10 rfl (by kernel_rfl) (by kernel_rfl) hT0 (fun w' hS => by have A0 := (hS.cell (p := ⟨g, o + (j + 1) * 3, none⟩) hg5).trans E0.out; have A1 := (hS.cell (p := ⟨g, o + (j + 1) * 3 + 1, none⟩) hg5).trans E1.out; go_simp; rfl) ?_
                refine carry_S 11 rfl (by kernel_rfl) (by decide) (by kernel_rfl) (fun K hK => ?_)
                go_simp
                refine (RIsLess_any p.rep.1 y.rep.1 p.rep.2 y.rep.2 _).mono ?_
                rintro e w6 ⟨rfl, hbw6⟩
                have hT1 : Below w5.heap.size w5 w6 := hT0.trans (hbw6.mono hT0.size)
                refine hK _ _ hT1 (forced_S (by kernel_rfl) ?_)
                clear hK K
                try simp only [Act.put, List.getElem_toArray, List.getElem_cons_succ, List.getElem_cons_zero, List.setIfInBounds_toArray, List.set_cons_zero, List.set_cons_succ]
                try simp only [Act.put, List.getElem_toArray, List.getElem_cons_succ, List.getElem_cons_zero, List.setIfInBounds_toArray, List.set_cons_zero, List.set_cons_succ]
                simp only [List.drop_succ_cons, List.drop_zero]
                rw [HLT.out]
                have HB7 := Lib.hid (HB0.out.trans ((HB5.out.trans (hT1.mono HB5.out.size)).mono HB0.out.size))
                have BX7 := Lib.hid (BX5.out.below hT1 BX5.out.lt)
                clear hT0 hT1 hbw6
                obtain ⟨x0, x1, g0, g1⟩ := BX7.out
                obtain ⟨t0, t1, t2⟩ := BX7.out.rd (.int .i64 8) (.int .i64 ((j : Int) + 1))
                go_wp2
                refine bodyPost_ret (v := fltV (8, ((j : Int) + 1))) (by simp [results, Tryz.results38, go_sem, t0, t1]) rfl ?_
                exact ⟨by rw [HQ.out]; try rfl, (HB7.out.setCell (p := ⟨w.heap.size, 0, none⟩) (Nat.le_refl _) _).setCell (p := ⟨w.heap.size, 1, none⟩) (Nat.le_refl _) _⟩
          · obtain rfl : k = ls.length := by omega
            have HQ : Hid (checkS fs ls = (0, -1)) := Lib.hid (by rw [HCK.out, HLK.out, loadsL_end])
            have BXq := Lib.hid (BX0.out.below HBq.out BX0.out.lt)
            clear hkl HLK
            go_wp2_with fail
            refine (RFine_any _).mono ?_
            rintro e w1 ⟨rfl, hb1⟩
            obtain ⟨x0, x1, g0, g1⟩ := BXq.out.below hb1 BXq.out.lt
            have HB1 := Lib.hid (HBw.out.trans (hb1.mono HBw.out.size))
            obtain ⟨t0, t1, t2⟩ := (BXq.out.below hb1 BXq.out.lt).rd (.int .i64 0) (.int .i64 (-1))
            clear hb1
            go_wp2
            refine bodyPost_ret (v := fltV (0, -1)) (by simp [results, Tryz.results38, go_sem, t0, t1]) rfl ?_
            exact ⟨by rw [HQ.out]; try rfl, (HB1.out.setCell (p := ⟨w.heap.size, 0, none⟩) (Nat.le_refl _) _).setCell (p := ⟨w.heap.size, 1, none⟩) (Nat.le_refl _) _⟩
end Go.Proofs.YtpanoplcamdnkaaGreatDoor

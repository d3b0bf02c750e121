/- bins in memory: walk of Fill. Condition: the sentinels that are read lie as named (SomeS). -/
import Derived.Test.YtpanoplcamdnkaaGreatDoorBfL
namespace Go.Proofs.YtpanoplcamdnkaaGreatDoor
open Go.RowKit Go.Lib Go.Maps Go.WideMaps

/-- what Fill hands over -/
def FillPost (a : Nat → Addr) (b mb : Nat) (L0 L : HldL) (w : World) (e : Ending) (w' : World) : Prop :=
  ∃ r mb', e = .returned r ∧ EV a r (fillF L).1 (fillF L).2 w' ∧ OBin b mb' (if (fillF L).1 = 0 then L else L0) w' ∧ (mb' = mb ∨ w.heap.size ≤ mb') ∧ w.grownBy w' (some b)
theorem fill_bad {a : Nat → Addr} {b mb : Nat} {L0 L : HldL} {w w' : World} {c t : Int} {r : Value} (h : fillF L = (c, t)) (hc : c ≠ 0) (hr : EV a r c t w') (ho : OBin b mb L0 w) (hb : Below w.heap.size w w') : FillPost a b mb L0 L w (.returned r) w' := by
  unfold FillPost
  rw [h]
  exact ⟨_, mb, rfl, hr, by rw [if_neg hc]; exact ho.below hb, .inl rfl, gb_of_below hb⟩
theorem OBin.turn {b mb M : Nat} {L0 L : HldL} {w : World} (ho : OBin b mb L0 w) (hm : w.ownsMap Tryz.prog 47 hldElem M L.length (dataB L)) (hne : b ≠ M) : OBin b M L (w.setCell ⟨b, 0, none⟩ (.map (some M))) :=
  ⟨by simp [World.setCell, Array.getElem?_modify, ho.row], World.ownsMap.setCell hm (Ne.symm hne) _, hne⟩
theorem fill_good {a : Nat → Addr} {b mb M : Nat} {L0 L : HldL} {w wr : World} (h : fillF L = (0, -1)) (ho : OBin b mb L0 w) (hm : wr.ownsMap Tryz.prog 47 hldElem M L.length (dataB L)) (hM : w.heap.size ≤ M) (hb : Below w.heap.size w wr) :
    FillPost a b mb L0 L w (.returned .nilIface) (wr.setCell ⟨b, 0, none⟩ (.map (some M))) := by
  have hbl := ho.lt
  unfold FillPost
  rw [h]
  exact ⟨_, M, rfl, EV.none a _, by rw [if_pos rfl]; exact (ho.below hb).turn hm (by omega), .inr hM, gb_set (gb_of_below hb) 0 _⟩
theorem setB_self (h : Hld) : ∀ L : HldL, h ∈ setB h L
  | [] => List.mem_singleton.2 rfl
  | y :: r => by
    unfold setB
    split
    · exact List.mem_cons_self
    · split
      · exact List.mem_cons_self
      · exact List.mem_cons_of_mem _ (setB_self h r)
/-- what is filled in is a right bin -/
theorem fill_ok {L : HldL} (h : (fillF L).1 = 0) {n : Int} (hn : ∀ x ∈ L, x.uses ≤ n) : BinOk n L ∧ L.length ≤ 250 := by
  unfold fillF at h
  split at h
  · exact absurd (show (7 : Int) = 0 from h) (by decide)
  · next hl =>
    refine ⟨?_, by omega⟩
    have key : ∀ k, k ≤ L.length → FillSt L k := by
      intro k
      induction k with
      | zero => intro _; exact FillSt.start L
      | succ k ih =>
        intro hk
        have hs := ih (by omega)
        by_cases e : fillAt L k L[k] = 0
        · exact hs.next (by omega) e
        · rw [hs.hit (by omega) e] at h; exact absurd h e
    have := (key L.length (Nat.le_refl _)).taken (Nat.le_refl _) n hn
    rwa [List.take_length] at this
set_option maxRecDepth 100000 in
set_option maxHeartbeats 8000000 in
theorem BnFill_any (a : Nat → Addr) (b mb : Nat) (L0 : HldL) (v : Value) (L : HldL) (hl : L.length ≤ 2 ^ 40) (hL : ∀ x ∈ L, HldW x ∧ x.text.length ≤ 1000000000) (B : Nat) (w : World) (hO : OBin b mb L0 w) (hv : RdL w B v L) (hBw : B ≤ w.heap.size) (hs : SomeS [1, 6, 7, 8] a w) :
    Calls Tryz.prog 45 #[.pointer (some ⟨b, 0, none⟩), v] w (FillPost a b mb L0 L w) := by
  have HV := Lib.hid hv
  have HO := Lib.hid hO
  have HS := Lib.hid hs
  have hbl := hO.lt
  obtain ⟨A, c, rfl, hc, hx⟩ := hv.form
  have HX := Lib.hid hx
  have HL := Lib.hid hL
  clear hx hL hv
  by_cases h4 : 250 < L.length
  · have h4i : (L.length : Int) > 250 := by omega
    have HG := Lib.hid (fillF_full h4)
    have s6 : w.cell? ⟨1, 0, none⟩ = some (sval a 6) := hs 6 (by simp)
    unfold sval at s6
    clear hs h4 hO
    go_enter Tryz.func45, Tryz.ntmps45
    go_wp2
    go_ret
    exact fill_bad HG.out (by decide) (EV.sent a _ 6 (by decide)) HO.out (Below.refl _ _)
  · have h4i : ¬ (L.length : Int) > 250 := by omega
    have HR := Lib.hid (fillF_from h4)
    have hmm := @run_makeMap Tryz.prog
    have HM0 : Hid ((w.alloc (.map #[] 0)).ownsMap Tryz.prog 47 hldElem w.heap.size 0 (dataB (L.take 0))) := Lib.hid (World.ownsMap_made w Tryz.prog 47 hldElem)
    clear hs hO
    go_enter Tryz.func45, Tryz.ntmps45
    go_wp2
    go_loopg [16] L.length (fun gh v16 wr => ∃ k : Nat, v16 = .int .i64 k ∧ k ≤ L.length ∧ gh = L.length - k ∧ Hid (FillSt L k) ∧ Hid (wr.ownsMap Tryz.prog 47 hldElem w.heap.size (L.take k).length (dataB (L.take k))) ∧ Hid (Below w.heap.size w wr))
    case atStart => exact ⟨0, rfl, Nat.zero_le _, rfl, Lib.hid (FillSt.start L), HM0, Lib.hid ((Below.refl _ _).alloc (Nat.le_refl _) _)⟩
    case round =>
      obtain ⟨k, rfl, hk, hgm, hst, HM, HB⟩ := hrel
      by_cases hkl : k < L.length
      · obtain ⟨g, o, rfl, hg, hcells⟩ := HX.out (by omega)
        obtain ⟨x0, x1, x2, x3⟩ := hcells k hkl
        have hgl : g < w.heap.size := Nat.lt_of_lt_of_le hg hBw
        have b1 : (0 : Int) ≤ (k : Int) := by omega
        have b2 : (k : Int) < (L.length : Int) := by omega
        obtain ⟨hxw, htl⟩ := HL.out L[k] (List.getElem_mem hkl)
        have HSN := Lib.hid (hst.out.next hkl)
        have HSH := Lib.hid (hst.out.hit hkl)
        have HSET := Lib.hid (hst.out.set hkl)
        have HTK := Lib.hid (fun n hn => hst.out.taken hk n hn)
        have HFB := Lib.hid (fillAt_bad (l := L) (i := k) (h := L[k]))
        have HFO := Lib.hid (fillAt_ok (l := L) (i := k) (h := L[k]))
        have HTL : Hid ((L.take k).length = k) := Lib.hid (by rw [List.length_take]; omega)
        have HTL1 : Hid ((L.take (k + 1)).length = k + 1) := Lib.hid (by rw [List.length_take]; omega)
        have HMX : Hid (∃ n : Int, ∀ x ∈ L, x.uses ≤ n) := Lib.hid ⟨9223372036854775807, fun x hx => (HL.out x hx).1.2.2⟩
        have HB0 := Lib.hid (HB.out.alloc HB.out.size (.cells #[.int .u32 (L[k].id.1 : Int), .int .i64 L[k].id.2, .int .i64 L[k].uses, .string (bs L[k].text)] 82))
        have HMA := Lib.hid (BnMarked_any a (.slice (some ⟨g, o, none⟩) L.length c) L hl (fun x hx => by have := (HL.out x hx).2; omega) k hkl B (wr.alloc (.cells #[.int .u32 (L[k].id.1 : Int), .int .i64 L[k].id.2, .int .i64 L[k].uses, .string (bs L[k].text)] 82)) (HV.out.below (HB0.out.mono hBw)) (Nat.le_trans hBw HB0.out.size) (show SomeS [7, 8] a _ from (HS.out.below HB0.out).partR (by decide)))
        clear hcells
        generalize markAt L k L[k] = mk at *
        generalize fillAt L k L[k] = fa at *
        generalize L[k] = x at *
        have p0 := (HB.out.cell (p := ⟨g, o + k * 4, none⟩) hgl).trans x0
        have p1 := (HB.out.cell (p := ⟨g, o + k * 4 + 1, none⟩) hgl).trans x1
        have p2 := (HB.out.cell (p := ⟨g, o + k * 4 + 2, none⟩) hgl).trans x2
        have p3 := (HB.out.cell (p := ⟨g, o + k * 4 + 3, none⟩) hgl).trans x3
        have HX4 := Lib.hid (Box4.mk' wr (.int .u32 (x.id.1 : Int)) (.int .i64 x.id.2) (.int .i64 x.uses) (.string (bs x.text)) 82)
        have HM1 : Hid ((wr.alloc (.cells #[.int .u32 (x.id.1 : Int), .int .i64 x.id.2, .int .i64 x.uses, .string (bs x.text)] 82)).ownsMap Tryz.prog 47 hldElem w.heap.size (L.take k).length (dataB (L.take k))) := Lib.hid (HM.out.alloc _)
        have HZ1 : Hid (wr.heap.size < (wr.alloc (.cells #[.int .u32 (x.id.1 : Int), .int .i64 x.id.2, .int .i64 x.uses, .string (bs x.text)] 82)).heap.size) := Lib.hid (by simp)
        have HWW : Hid (w.heap.size ≤ wr.heap.size) := Lib.hid HB.out.size
        have HXW := Lib.hid hxw
        have HTX : Hid ((bs x.text).size ≤ 1000000000) := Lib.hid (by rw [bs_size]; exact htl)
        have HML : Hid (w.heap.size < wr.heap.size) := Lib.hid HM.out.lt
        clear x0 x1 x2 x3 hxw htl hst
        go_wp2_with fail
        generalize wr.alloc (.cells #[.int .u32 (x.id.1 : Int), .int .i64 x.id.2, .int .i64 x.uses, .string (bs x.text)] 82) = w1 at *
        refine HMA.out.mono ?_
        rintro e w2 ⟨r8, rfl, hes, hb2⟩
        have HES := Lib.hid hes
        have HX2 := Lib.hid (HX4.out.below hb2 HZ1.out)
        have HB2 := Lib.hid (HB0.out.trans (hb2.mono HB0.out.size))
        have HM2 : Hid (w2.ownsMap Tryz.prog 47 hldElem w.heap.size (L.take k).length (dataB (L.take k))) := Lib.hid (HM1.out.kept (gb_of_below (r := none) hb2) (by simp))
        clear hes hb2 p0 p1 p2 p3
        obtain ⟨y0, y1, y2, y3, _⟩ := HX2.out
        have RT := Lib.hid (BnRight_any (bs x.text) HTX.out w2)
        rw [bs_toList] at RT
        have s1 : w2.cell? ⟨3, 0, none⟩ = some (sval a 1) := (HS.out.below HB2.out) 1 (by simp)
        unfold sval at s1
        cases hr : rightB x.text with
        | false =>
          rw [hr] at RT
          obtain rfl := HFB.out (fun h => by rw [rightB_iff.2 ⟨h.1, h.2.1⟩] at hr; cases hr)
          have HG : Hid (fillF L = (2, (k : Int))) := Lib.hid (by rw [HR.out]; exact HSH.out (by decide))
          clear hr
          go_wp2_with fail
          refine RT.out.mono ?_
          rintro e w3 ⟨rfl, rfl⟩
          go_wp2
          go_ret
          exact fill_bad HG.out (by decide) (EV_mk a w2 1 (by decide) (k : Int) 136) HO.out (HB2.out.alloc HB2.out.size _)
        | true =>
          rw [hr] at RT
          by_cases h3 : x.uses < 0
          · obtain rfl := HFB.out (by omega)
            have HG : Hid (fillF L = (2, (k : Int))) := Lib.hid (by rw [HR.out]; exact HSH.out (by decide))
            clear hr
            go_wp2_with fail
            refine RT.out.mono ?_
            rintro e w3 ⟨rfl, rfl⟩
            go_wp2
            go_ret
            exact fill_bad HG.out (by decide) (EV_mk a w2 1 (by decide) (k : Int) 136) HO.out (HB2.out.alloc HB2.out.size _)
          · have hri := rightB_iff.1 hr
            obtain rfl := HFO.out ⟨hri.1, hri.2, by omega⟩
            clear hr hri
            rcases HES.out with ⟨rfl, h0⟩ | ⟨k9, hk9, rfl, hcd⟩
            · have HN := Lib.hid (HSN.out h0)
              obtain ⟨n, hn⟩ := HMX.out
              have hbk := HTK.out n hn
              have HSR := Lib.hid hbk.srt
              have HID := Lib.hid hbk.idok0
              have HST := Lib.hid (HSET.out h0)
              have HB1n := Lib.hid (HN.out.taken (by omega) n hn)
              have HIX : Hid (IdOk x.id ∧ 0 ≤ x.id.2) := Lib.hid (by
                have hm : x ∈ L.take (k + 1) := by rw [← HST.out]; exact setB_self x (L.take k)
                exact HB1n.out.idok0 x hm)
              have HKEY := Lib.hid (keyI HIX.out.1)
              have HLEN : Hid ((L.take k).length < maxLen) := Lib.hid (by rw [HTL.out]; unfold maxLen; omega)
              clear h0 hbk
              go_wp2_with fail
              refine RT.out.mono ?_
              rintro e w3 ⟨rfl, rfl⟩
              go_wp2_with (first | (at_mapUpdate; refine wpList_mapUpdate_in _ rfl _ _ _ 117 rfl 47 82 lawI Tryz.underlying117 hldElem w.heap.size (L.take k).length (dataB (L.take k)) rfl HM2.out HLEN.out (idV x.id) (hldV x) _ rfl rfl HKEY.out (hldU x) [] (hldElem_mk HXW.out) ?_; intro w8 hown8 hturn8) | fail)
              have hm8 := hown8
              rw [put_dataB HSR.out HID.out x HIX.out, HST.out] at hm8
              have HM8 := Lib.hid (ownsMap_tight hm8)
              have HB8 := Lib.hid (gb_toBelow HB2.out HB2.out.size (Nat.le_refl _) hturn8.grown)
              clear hown8 hturn8 hm8
              go_wp2
              go_roundg (L.length - (k + 1))
              case measure => omega
              case rel => exact ⟨k + 1, by go_num, hkl, rfl, HN, HM8, HB8⟩
            · have HG : Hid (fillF L = (fa, (k : Int))) := Lib.hid (by rw [HR.out]; exact HSH.out (by omega))
              have HNZ : Hid (fa ≠ 0) := Lib.hid (by omega)
              have HCD := Lib.hid hcd
              have HK9 := Lib.hid hk9
              unfold sval
              clear hcd hk9
              go_wp2_with fail
              refine RT.out.mono ?_
              rintro e w3 ⟨rfl, rfl⟩
              go_wp2
              go_ret
              refine fill_bad HG.out HNZ.out ?_ HO.out (HB2.out.alloc HB2.out.size _)
              rw [HCD.out]
              exact EV_mk a w2 k9 HK9.out (k : Int) 136
      · obtain rfl : k = L.length := by omega
        have HG : Hid (fillF L = (0, -1)) := Lib.hid (by rw [HR.out]; exact hst.out.done)
        have hm := HM.out
        rw [List.take_length] at hm
        have HML := Lib.hid hm
        have hob := HO.out.below HB.out
        have c0 := hob.cell
        have f0 : wr.frozen? ⟨b, 0, none⟩ = false := Lib.frozen_of_heap hob.row 0
        clear hst hm hob
        go_wp2
        go_ret
        exact fill_good HG.out HO.out HML.out (Nat.le_refl _) HB.out
end Go.Proofs.YtpanoplcamdnkaaGreatDoor

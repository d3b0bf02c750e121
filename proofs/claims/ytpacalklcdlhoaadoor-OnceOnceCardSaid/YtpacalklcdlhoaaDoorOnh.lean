/- Walk of OnceOnce. Condition: the sentinels lie as named. -/
import Derived.Test.YtpacalklcdlhoaaDoorOng
import Derived.Test.YtpacalklcdlhoaaDoorOne
namespace Go.Proofs.YtpacalklcdlhoaaDoor
open Go.RowKit Go.Lib Go.Maps

theorem bs_self (t : ByteArray) : bs t.data.toList = t := by
  apply ba_ext
  rw [bs_toList]
/-- an error's number is the one that is asked -/
theorem coded_sent (a : Nat → Addr) (k : Nat) (hk : k < 12) (c : Int) (hc : c = (k : Int) + 1) (w : World) (h : Sents a w) : Calls Tryd.prog 30 #[.iface 239 (.pointer (some (a k))), .int .i64 c] w fun e w' => e = .returned (.bool true) ∧ Below w.heap.size w w' := by
  subst hc
  have he : ErrV a (sval a k) ((k : Int) + 1) (-1) w := ErrV.sent h k hk
  refine (coded3_any a _ ((k : Int) + 1) _ _ w h he).mono fun e w' ⟨h1, h2⟩ => ⟨?_, h2⟩
  rw [h1]; unfold codedB; simp
set_option maxRecDepth 100000 in
set_option maxHeartbeats 8000000 in
theorem OnceOnce_walk (a : Nat → Addr) (v : Value) (l : List Cl) (hl : l.length ≤ maxLen) (htx : ∀ x ∈ l, x.client.length ≤ maxLen ∧ x.s.length ≤ maxLen ∧ (Lit.int .i64 x.n).wf = true) (W : World) (hv : ClRd W W.heap.size v l) (hg : Sents a W) :
    Calls Tryd.prog 7 #[v] W fun e w' => e = .returned (.bool true) ∧ Below W.heap.size W w' := by
  have hLC := longCalls_any v l W.heap.size
  have HV := Lib.hid hv
  have HG := Lib.hid hg
  have HL := Lib.hid hl
  have HTX := Lib.hid htx
  have LC : Hid (∀ w, Below W.heap.size W w → Calls Tryd.prog 37 #[v] w fun e w' => e = .returned (.bool (longB l)) ∧ w = w') := Lib.hid (fun w hb => hLC w (by
    obtain ⟨A, c, hvv, hlc, hc⟩ := HV.out
    exact ⟨A, c, hvv, hlc, fun h0 => by
      obtain ⟨g, o, hA, hgl, hcells⟩ := hc h0
      exact ⟨g, o, hA, hgl, fun k hk => by
        obtain ⟨c0, c1, c2, c3⟩ := hcells k hk
        exact ⟨(hb.cell (p := ⟨g, o + k * 4, none⟩) hgl).trans c0, (hb.cell (p := ⟨g, o + k * 4 + 1, none⟩) hgl).trans c1, (hb.cell (p := ⟨g, o + k * 4 + 2, none⟩) hgl).trans c2, (hb.cell (p := ⟨g, o + k * 4 + 3, none⟩) hgl).trans c3⟩⟩⟩) HL.out (fun x hx => ⟨(HTX.out x hx).1, (HTX.out x hx).2.1⟩))
  obtain ⟨A, c, rfl, _, hc⟩ := hv
  have HC := Lib.hid hc
  have hl63 : l.length ≤ 9223372036854775807 := by unfold maxLen at hl; omega
  clear hc hl htx hg hLC
  cases hL : longB l with
  | true =>
    have HLB := Lib.hid hL
    clear hL
    go_enter Tryd.func7, Tryd.ntmps7
    go_wp2_with fail
    refine (onced_any a W HG.out).mono ?_
    rintro e w0 ⟨rfl, hb0⟩
    go_wp2_with fail
    refine (LC.out w0 hb0).mono ?_
    rintro e w1 ⟨rfl, rfl⟩
    rw [HLB.out]
    go_wp2
    go_ret
    exact ⟨rfl, hb0⟩
  | false =>
    have h80 : l.length ≤ 80 := by
      unfold longB at hL
      rw [Bool.or_eq_false_iff] at hL
      have := of_decide_eq_false hL.1
      omega
    have HLB := Lib.hid hL
    clear hL
    go_enter Tryd.func7, Tryd.ntmps7
    go_wp2_with fail
    refine (onced_any a W HG.out).mono ?_
    rintro e w0 ⟨rfl, hb0⟩
    go_wp2_with fail
    refine (LC.out w0 hb0).mono ?_
    rintro e w1 ⟨rfl, rfl⟩
    rw [HLB.out]
    go_wp2_with fail
    refine (ONew_any w0).mono ?_
    rintro e w1 ⟨b, mb, rfl, hT, hb, hmb, hbl⟩
    have HI0 : Hid (OIn a W b mb 0 (.map []) w1) := Lib.hid ⟨hT, HG.out, hb0.trans (hbl.mono hb0.size), Nat.le_trans hb0.size hb, Nat.le_trans hb0.size hmb, Nat.zero_le _⟩
    clear hT hb hmb hbl hb0
    go_wp2
    go_loopg [5] l.length (fun gh vi wr => ∃ (k cnt : Nat) (D : DataW Unit), vi = .int .i64 k ∧ k ≤ l.length ∧ gh = l.length - k ∧ cnt ≤ 2 * k ∧ Hid (OIn a W b mb cnt D wr))
    case atStart => exact ⟨0, 0, _, rfl, Nat.zero_le _, rfl, Nat.zero_le _, HI0⟩
    case round =>
      clear HI0
      obtain ⟨k, cnt, D, rfl, hk, hgm, hcnt, hin⟩ := hrel
      have hcm : cnt < maxLen := by unfold maxLen; omega
      have hcm1 : cnt + 1 < maxLen := by unfold maxLen; omega
      have HCM := Lib.hid (And.intro hcm hcm1)
      clear hcm hcm1
      by_cases hkl : k < l.length
      · obtain ⟨gb, o, rfl, hgb, hcells⟩ := HC.out (by omega)
        obtain ⟨c0, c1, c2, c3⟩ := hcells k hkl
        replace c0 := (hin.out.bel.cell (p := ⟨gb, o + k * 4, none⟩) hgb).trans c0
        replace c1 := (hin.out.bel.cell (p := ⟨gb, o + k * 4 + 1, none⟩) hgb).trans c1
        replace c2 := (hin.out.bel.cell (p := ⟨gb, o + k * 4 + 2, none⟩) hgb).trans c2
        replace c3 := (hin.out.bel.cell (p := ⟨gb, o + k * 4 + 3, none⟩) hgb).trans c3
        have b1 : (0 : Int) ≤ (k : Int) := by omega
        have b2 : (k : Int) < (l.length : Int) := by omega
        obtain ⟨hx0, _, hwn⟩ := HTX.out l[k] (List.getElem_mem hkl)
        have htT : (bs l[k].client).size ≤ maxLen := by rw [bs_size]; exact hx0
        clear hcells hx0
        have e1 : VT l[k].client = .string (bs l[k].client) := rfl
        have e2 : VT l[k].s = .string (bs l[k].s) := rfl
        rw [e1] at c1
        rw [e2] at c2
        clear e1 e2
        generalize bs l[k].client = T at *
        generalize bs l[k].s = X at *
        generalize l[k].note = nt at *
        generalize l[k].n = n at *
        obtain ⟨an, s0, hval, hwf⟩ := hin.out.tab.val T htT
        have hAa := hin.out.below ((Below.refl _ _).alloc (Nat.le_refl _) (.cells #[.bool nt, .string T, .string X, .int .i64 n] 73))
        have hRa : CRow wr.heap.size nt T X n (wr.alloc (.cells #[.bool nt, .string T, .string X, .int .i64 n] 73)) := heap_alloc_new wr _
        have hba : wr.heap.size ≠ b ∧ wr.heap.size ≠ mb := by
          have h1 := hin.out.tab.lt
          have h2 := hin.out.tab.map.lt
          omega
        have HIa := Lib.hid hAa
        have HRa := Lib.hid hRa
        have HVAL := Lib.hid hval
        have HWF := Lib.hid hwf
        have HWN := Lib.hid hwn
        have HTT := Lib.hid htT
        have HBA := Lib.hid hba
        have HTAB := Lib.hid hin.out.tab
        have HSZ := Lib.hid hin.out.sz
        clear hAa hRa hval hwf hwn htT hba hin
        cases hN : isName T.data.toList with
        | false =>
          have ASK1 := Lib.hid (OIn.ask (a := a) (W := W) (b := b) (mb := mb) (cnt := cnt) HTT.out HVAL.out (n := n) (V := .tuple #[.string ⟨#[]⟩, .bool false, .iface 239 (.pointer (some (a 3)))]) (ask_bad hN))
          have NOTE1 := Lib.hid (OIn.note (a := a) (W := W) (b := b) (mb := mb) HCM.out.1 (D := D) (D' := D) (x := X) (n := n) HTT.out HWN.out HVAL.out (V := .iface 239 (.pointer (some (a 3)))) (note_bad hN) (note_some (note_bad hN) (by decide)) HSZ.out rfl)
          clear hN
          go_wp2_with fail
          generalize wr.alloc (.cells #[.bool nt, .string T, .string X, .int .i64 n] 73) = wa at *
          generalize wr.heap.size = ba at *
          refine (ASK1.out wa HIa.out).mono ?_
          rintro e w1 ⟨rfl, hb1⟩
          have HI1 := Lib.hid (HIa.out.below hb1)
          have HR1 := Lib.hid (HRa.out.below hb1)
          clear hb1
          obtain ⟨r10, r11, r12, r13⟩ := HR1.out.cells
          clear HIa HRa
          go_wp2_with fail
          refine (NOTE1.out w1 HI1.out).mono ?_
          rintro e w2 ⟨rfl, hi2, ht2⟩
          have HI2 := Lib.hid hi2
          have HR2 := Lib.hid (HR1.out.two ht2 HBA.out.1 HBA.out.2)
          clear hi2 ht2
          obtain ⟨r20, r21, r22, r23⟩ := HR2.out.cells
          go_wp2
          go_roundg (l.length - (k + 1))
          case measure => omega
          case rel => exact ⟨k + 1, cnt + 1, D, by go_num, hkl, rfl, by omega, HI2⟩
        | true =>
          by_cases hw : n = wrap64 (an + 1)
          · by_cases hz : Maps.has D (.string T.data.toList) = false ∧ 20 ≤ Maps.size D
            · have ASK1 := Lib.hid (OIn.ask (a := a) (W := W) (b := b) (mb := mb) (cnt := cnt) HTT.out HVAL.out (n := n) (V := .tuple #[.string ⟨#[]⟩, .bool false, .nilIface]) (ask_free hN HWF.out hw))
              have NOTE1 := Lib.hid (OIn.note (a := a) (W := W) (b := b) (mb := mb) HCM.out.1 (D := D) (D' := D) (x := X) (n := n) HTT.out HWN.out HVAL.out (V := .iface 239 (.pointer (some (a 6)))) (note_full hN hw hz) (note_some (note_full hN hw hz) (by decide)) HSZ.out rfl)
              clear hN hw hz
              go_wp2_with fail
              generalize wr.alloc (.cells #[.bool nt, .string T, .string X, .int .i64 n] 73) = wa at *
              generalize wr.heap.size = ba at *
              refine (ASK1.out wa HIa.out).mono ?_
              rintro e w1 ⟨rfl, hb1⟩
              have HI1 := Lib.hid (HIa.out.below hb1)
              have HR1 := Lib.hid (HRa.out.below hb1)
              clear hb1
              obtain ⟨r10, r11, r12, r13⟩ := HR1.out.cells
              clear HIa HRa
              go_wp2_with fail
              refine (NOTE1.out w1 HI1.out).mono ?_
              rintro e w2 ⟨rfl, hi2, ht2⟩
              have HI2 := Lib.hid hi2
              have HR2 := Lib.hid (HR1.out.two ht2 HBA.out.1 HBA.out.2)
              clear hi2 ht2
              obtain ⟨r20, r21, r22, r23⟩ := HR2.out.cells
              go_wp2_with fail
              refine (coded_sent a 6 (by decide) 7 (by decide) w2 HI2.out.sen).mono ?_
              rintro e w3 ⟨rfl, hb3⟩
              have HI3 := Lib.hid (HI2.out.below hb3)
              clear hb3
              go_wp2
              go_roundg (l.length - (k + 1))
              case measure => omega
              case rel => exact ⟨k + 1, cnt + 1, D, by go_num, hkl, rfl, by omega, HI3⟩
            · have hno := note_ok hN hw hz
              have ASK1 := Lib.hid (OIn.ask (a := a) (W := W) (b := b) (mb := mb) (cnt := cnt) HTT.out HVAL.out (n := n) (V := .tuple #[.string ⟨#[]⟩, .bool false, .nilIface]) (ask_free hN HWF.out hw))
              obtain ⟨D', hD'⟩ : ∃ D', D' = D.put (.string T.data.toList) (ansD n X.data.toList) := ⟨_, rfl⟩
              have hsz' : Maps.size D' ≤ 20 := by rw [hD']; exact size_note HTAB.out HSZ.out hz _
              have hval' : D'.atKey (.string T.data.toList) (ansD 0 []) = ansD n X.data.toList := by rw [hD']; exact Maps.atKey_put_same HTAB.out.map.isMap (isKeyS _) _ _
              have hhas' : Maps.has D' (.string T.data.toList) = true := by rw [hD']; exact Maps.has_put_same HTAB.out.map.isMap (isKeyS _) _
              have NOTE1 := Lib.hid (OIn.note (a := a) (W := W) (b := b) (mb := mb) HCM.out.1 (D := D) (D' := D') (x := X) (n := n) HTT.out HWN.out HVAL.out (V := .nilIface) hno (by rw [hD']; exact note_none hno) hsz' rfl)
              have ASK2 := Lib.hid (OIn.ask (a := a) (W := W) (b := b) (mb := mb) (cnt := cnt + 1) HTT.out hval' (n := n) (V := .tuple #[.string X, .bool true, .nilIface]) (by rw [ask_again hN hhas' rfl, bs_self]))
              have hor := note_order (D := D') hN (wrap_ne HWN.out)
              have NOTE2 := Lib.hid (OIn.note (a := a) (W := W) (b := b) (mb := mb) HCM.out.2 (D := D') (D' := D') (x := ⟨#[120]⟩) (n := n) HTT.out HWN.out hval' (V := .iface 239 (.pointer (some (a 7)))) hor (note_some hor (by decide)) hsz' rfl)
              have ASK3 := Lib.hid (OIn.ask (a := a) (W := W) (b := b) (mb := mb) (cnt := cnt + 1 + 1) HTT.out hval' (n := wrap64 (n + 1)) (V := .tuple #[.string ⟨#[]⟩, .bool false, .nilIface]) (ask_free hN HWN.out rfl))
              clear hD' hsz' hval' hhas' hno hor hN hw hz
              go_wp2_with fail
              generalize wr.alloc (.cells #[.bool nt, .string T, .string X, .int .i64 n] 73) = wa at *
              generalize wr.heap.size = ba at *
              refine (ASK1.out wa HIa.out).mono ?_
              rintro e w1 ⟨rfl, hb1⟩
              have HI1 := Lib.hid (HIa.out.below hb1)
              have HR1 := Lib.hid (HRa.out.below hb1)
              clear hb1
              obtain ⟨r10, r11, r12, r13⟩ := HR1.out.cells
              clear HIa HRa
              go_wp2_with fail
              refine (NOTE1.out w1 HI1.out).mono ?_
              rintro e w2 ⟨rfl, hi2, ht2⟩
              have HI2 := Lib.hid hi2
              have HR2 := Lib.hid (HR1.out.two ht2 HBA.out.1 HBA.out.2)
              clear hi2 ht2
              obtain ⟨r20, r21, r22, r23⟩ := HR2.out.cells
              go_wp2_with fail
              refine (ASK2.out w2 HI2.out).mono ?_
              rintro e w3 ⟨rfl, hb3⟩
              have HI3 := Lib.hid (HI2.out.below hb3)
              have HR3 := Lib.hid (HR2.out.below hb3)
              clear hb3
              obtain ⟨r30, r31, r32, r33⟩ := HR3.out.cells
              go_wp2_with fail
              refine (NOTE2.out w3 HI3.out).mono ?_
              rintro e w4 ⟨rfl, hi4, ht4⟩
              have HI4 := Lib.hid hi4
              have HR4 := Lib.hid (HR3.out.two ht4 HBA.out.1 HBA.out.2)
              clear hi4 ht4
              obtain ⟨r40, r41, r42, r43⟩ := HR4.out.cells
              go_wp2_with fail
              refine (coded_sent a 7 (by decide) 8 (by decide) w4 HI4.out.sen).mono ?_
              rintro e w5 ⟨rfl, hb5⟩
              have HI5 := Lib.hid (HI4.out.below hb5)
              have HR5 := Lib.hid (HR4.out.below hb5)
              clear hb5
              obtain ⟨r50, r51, r52, r53⟩ := HR5.out.cells
              go_wp2_with fail
              refine (ASK3.out w5 HI5.out).mono ?_
              rintro e w6 ⟨rfl, hb6⟩
              have HI6 := Lib.hid (HI5.out.below hb6)
              have HR6 := Lib.hid (HR5.out.below hb6)
              clear hb6
              obtain ⟨r60, r61, r62, r63⟩ := HR6.out.cells
              go_wp2
              go_roundg (l.length - (k + 1))
              case measure => omega
              case rel => exact ⟨k + 1, cnt + 1 + 1, D', by go_num, hkl, rfl, by omega, HI6⟩
          · by_cases hag : Maps.has D (.string T.data.toList) = true ∧ n = an
            · have ASK1 := Lib.hid (OIn.ask (a := a) (W := W) (b := b) (mb := mb) (cnt := cnt) HTT.out HVAL.out (n := n) (V := .tuple #[.string (bs s0), .bool true, .nilIface]) (ask_again hN hag.1 hag.2))
              have NOTE1 := Lib.hid (OIn.note (a := a) (W := W) (b := b) (mb := mb) HCM.out.1 (D := D) (D' := D) (x := X) (n := n) HTT.out HWN.out HVAL.out (V := .iface 239 (.pointer (some (a 7)))) (note_order hN hw) (note_some (note_order hN hw) (by decide)) HSZ.out rfl)
              clear hN hw hag
              go_wp2_with fail
              generalize wr.alloc (.cells #[.bool nt, .string T, .string X, .int .i64 n] 73) = wa at *
              generalize wr.heap.size = ba at *
              refine (ASK1.out wa HIa.out).mono ?_
              rintro e w1 ⟨rfl, hb1⟩
              have HI1 := Lib.hid (HIa.out.below hb1)
              have HR1 := Lib.hid (HRa.out.below hb1)
              clear hb1
              obtain ⟨r10, r11, r12, r13⟩ := HR1.out.cells
              clear HIa HRa
              go_wp2_with fail
              refine (NOTE1.out w1 HI1.out).mono ?_
              rintro e w2 ⟨rfl, hi2, ht2⟩
              have HI2 := Lib.hid hi2
              have HR2 := Lib.hid (HR1.out.two ht2 HBA.out.1 HBA.out.2)
              clear hi2 ht2
              obtain ⟨r20, r21, r22, r23⟩ := HR2.out.cells
              go_wp2
              go_roundg (l.length - (k + 1))
              case measure => omega
              case rel => exact ⟨k + 1, cnt + 1, D, by go_num, hkl, rfl, by omega, HI2⟩
            · have ASK1 := Lib.hid (OIn.ask (a := a) (W := W) (b := b) (mb := mb) (cnt := cnt) HTT.out HVAL.out (n := n) (V := .tuple #[.string ⟨#[]⟩, .bool false, .iface 239 (.pointer (some (a 7)))]) (ask_order hN hag hw))
              have NOTE1 := Lib.hid (OIn.note (a := a) (W := W) (b := b) (mb := mb) HCM.out.1 (D := D) (D' := D) (x := X) (n := n) HTT.out HWN.out HVAL.out (V := .iface 239 (.pointer (some (a 7)))) (note_order hN hw) (note_some (note_order hN hw) (by decide)) HSZ.out rfl)
              clear hN hw hag
              go_wp2_with fail
              generalize wr.alloc (.cells #[.bool nt, .string T, .string X, .int .i64 n] 73) = wa at *
              generalize wr.heap.size = ba at *
              refine (ASK1.out wa HIa.out).mono ?_
              rintro e w1 ⟨rfl, hb1⟩
              have HI1 := Lib.hid (HIa.out.below hb1)
              have HR1 := Lib.hid (HRa.out.below hb1)
              clear hb1
              obtain ⟨r10, r11, r12, r13⟩ := HR1.out.cells
              clear HIa HRa
              go_wp2_with fail
              refine (NOTE1.out w1 HI1.out).mono ?_
              rintro e w2 ⟨rfl, hi2, ht2⟩
              have HI2 := Lib.hid hi2
              have HR2 := Lib.hid (HR1.out.two ht2 HBA.out.1 HBA.out.2)
              clear hi2 ht2
              obtain ⟨r20, r21, r22, r23⟩ := HR2.out.cells
              go_wp2
              go_roundg (l.length - (k + 1))
              case measure => omega
              case rel => exact ⟨k + 1, cnt + 1, D, by go_num, hkl, rfl, by omega, HI2⟩
      · obtain rfl : k = l.length := by omega
        have hszD := hin.out.sz
        go_wp2_with fail
        refine (OClients_any b mb cnt D wr hin.out.tab (by omega)).mono ?_
        rintro e w3 ⟨vx, ss, rfl, hperm, hrow, hb3⟩
        have hlen : ss.length ≤ 20 := by rw [hperm.length_eq, strKeys_size]; exact hszD
        have HB3 := Lib.hid (hin.out.below hb3).bel
        obtain ⟨A9, c9, h9, _, _⟩ := Rd.own hrow
        rw [hrow.1, Nat.mul_one] at h9
        subst h9
        have hi : (ss.length : Int) ≤ 20 := by omega
        clear hperm hrow hb3 hin hszD
        go_wp2
        go_ret
        exact ⟨rfl, HB3.out⟩
end Go.Proofs.YtpacalklcdlhoaaDoor

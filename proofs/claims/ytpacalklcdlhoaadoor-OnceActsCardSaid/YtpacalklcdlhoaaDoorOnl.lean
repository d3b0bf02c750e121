/- Walk of OnceActs. Condition: the sentinels lie as named. -/
import Derived.Test.YtpacalklcdlhoaaDoorOnm
import Derived.Test.YtpacalklcdlhoaaDoorOng
import Derived.Test.YtpacalklcdlhoaaDoorOne
import Derived.Test.YtpacalklcdlhoaaDoorRefK2
import Derived.Test.YtpacalklcdlhoaaDoorHeldN
import Derived.Test.YtpacalklcdlhoaaDoorTapD
namespace Go.Proofs.YtpacalklcdlhoaaDoor
open Go.RowKit Go.Lib Go.Maps

theorem bs_self (t : ByteArray) : bs t.data.toList = t := by
  apply ba_ext
  rw [bs_toList]
theorem own_ltO {w : World} {base n size b : Nat} {e : TypeId} {v : Value} {xs : List Value} (h : w.ownsRow base e size v n xs) (hb : v.ownBlock = some b) : b < w.heap.size := by
  rcases h.2 with ⟨rfl, _⟩ | ⟨g, cap, cur, rfl, _, hh, _⟩
  · cases hb
  · cases hb; exact (Array.getElem?_eq_some_iff.1 hh).1
theorem clients_row {L : Tb} (hs : Srt L) {base : Nat} {w : World} {v : Value} {ss : List (List UInt8)} (hp : ss.Perm (strKeys (dataOf L))) (hrow : w.ownsRow base 9 1 v ss.length ((ss.mergeSort (fun x y => decide (x ≤ y))).map encStr)) : Rd w w.heap.size v ((L.map (·.1)).map VT) := by
  rw [keys_data] at hp
  have h := Rd.own hrow
  rw [sort_keys hs hp] at h
  exact h
theorem CRow.frame {ba rb : Nat} {nt : Bool} {T X : ByteArray} {n : Int} {v : Value} {w w' : World} (h : CRow ba nt T X n w) (k : TFrame rb v w w') (h1 : ba ≠ rb) (h2 : v.ownBlock ≠ some ba) : CRow ba nt T X n w' := (k.block ba h.lt h1 h2).trans h
/-- an error's number is the one that is asked -/
theorem coded_sent (a : Nat → Addr) (k : Nat) (hk : k < 12) (c : Int) (hc : c = (k : Int) + 1) (w : World) (h : Sents a w) : Calls Tryd.prog 30 #[.iface 239 (.pointer (some (a k))), .int .i64 c] w fun e w' => e = .returned (.bool true) ∧ Below w.heap.size w w' := by
  subst hc
  have he : ErrV a (sval a k) ((k : Int) + 1) (-1) w := ErrV.sent h k hk
  refine (coded3_any a _ ((k : Int) + 1) _ _ w h he).mono fun e w' ⟨h1, h2⟩ => ⟨?_, h2⟩
  rw [h1]; unfold codedB; simp
set_option maxRecDepth 100000 in
set_option maxHeartbeats 8000000 in
theorem OnceActs_walk (a : Nat → Addr) (v : Value) (l : List Cl) (hl : l.length ≤ maxLen) (htx : ∀ x ∈ l, x.client.length ≤ maxLen ∧ x.s.length ≤ maxLen ∧ (Lit.int .i64 x.n).wf = true) (W : World) (hv : ClRd W W.heap.size v l) (hg : Sents a W) :
    Calls Tryd.prog 8 #[v] W fun e w' => e = .returned (.bool true) ∧ Below W.heap.size W w' := by
  have hLC := longCalls_any v l W.heap.size
  have HV := Lib.hid hv
  have HG := Lib.hid hg
  have HL := Lib.hid hl
  have HTX := Lib.hid htx
  have LC : Hid (∀ w, Below W.heap.size W w → Calls Tryd.prog 37 #[v] w fun e w' => e = .returned (.bool (longB l)) ∧ w = w') := Lib.hid (fun w hb => hLC w (by
    obtain ⟨A, c, hvv, hlc, hc⟩ := HV.out
    exact ⟨A, c, hvv, hlc, fun h0 => by
      obtain ⟨g, o, hA, hgl, hcells⟩ := hc h0
      exact ⟨g, o, hA, hgl, fun k hk => by
        obtain ⟨c0, c1, c2, c3⟩ := hcells k hk
        exact ⟨(hb.cell (p := ⟨g, o + k * 4, none⟩) hgl).trans c0, (hb.cell (p := ⟨g, o + k * 4 + 1, none⟩) hgl).trans c1, (hb.cell (p := ⟨g, o + k * 4 + 2, none⟩) hgl).trans c2, (hb.cell (p := ⟨g, o + k * 4 + 3, none⟩) hgl).trans c3⟩⟩⟩) HL.out (fun x hx => ⟨(HTX.out x hx).1, (HTX.out x hx).2.1⟩))
  obtain ⟨A, c, rfl, _, hc⟩ := hv
  have HC := Lib.hid hc
  have hl63 : l.length ≤ 9223372036854775807 := by unfold maxLen at hl; omega
  clear hc hl htx hg hLC
  cases hL : longB l with
  | true =>
    have HLB := Lib.hid hL
    clear hL
    go_enter Tryd.func8, Tryd.ntmps8
    go_wp2_with fail
    refine (onced_any a W HG.out).mono ?_
    rintro e w0 ⟨rfl, hb0⟩
    go_wp2_with fail
    refine (LC.out w0 hb0).mono ?_
    rintro e w1 ⟨rfl, rfl⟩
    rw [HLB.out]
    go_wp2
    go_ret
    exact ⟨rfl, hb0⟩
  | false =>
    have h80 : l.length ≤ 80 := by
      unfold longB at hL
      rw [Bool.or_eq_false_iff] at hL
      have := of_decide_eq_false hL.1
      omega
    have HLB := Lib.hid hL
    clear hL
    go_enter Tryd.func8, Tryd.ntmps8
    go_wp2_with fail
    refine (onced_any a W HG.out).mono ?_
    rintro e w0 ⟨rfl, hb0⟩
    go_wp2_with fail
    refine (LC.out w0 hb0).mono ?_
    rintro e w1 ⟨rfl, rfl⟩
    rw [HLB.out]
    go_wp2_with fail
    refine (ONew_any w0).mono ?_
    rintro e w1 ⟨b, mb, rfl, hT, hb, hmb, hbl⟩
    have hb1 := hb0.trans (hbl.mono hb0.size)
    have hB2 : Below w1.heap.size w1 (w1.alloc (.cells #[.slice none 0 0] 80)) := (Below.refl _ _).alloc (Nat.le_refl _) _
    have hbl1 := hT.lt
    have hml1 := hT.map.lt
    have HI0 : Hid (TIn a W b mb 0 w1.heap.size (.slice none 0 0) [] (w1.alloc (.cells #[.slice none 0 0] 80))) := Lib.hid ⟨OIn.below ⟨hT, HG.out, hb1, Nat.le_trans hb0.size hb, Nat.le_trans hb0.size hmb, Nat.zero_le _⟩ hB2, ⟨heap_alloc_new w1 _, World.ownsRow_nil _ _ _ _, fun g h => by cases h⟩, List.Pairwise.nil, by omega, by omega, fun g h => by cases h⟩
    have HRB : Hid (W.heap.size ≤ w1.heap.size) := Lib.hid hb1.size
    clear hT hb hmb hbl hb0 hb1 hB2 hbl1 hml1
    go_wp2
    generalize w1.alloc (.cells #[.slice none 0 0] 80) = w2 at *
    generalize w1.heap.size = rb at *
    go_loopg [6] l.length (fun gh vi wr => ∃ (k cnt : Nat) (L : Tb) (v : Value), vi = .int .i64 k ∧ k ≤ l.length ∧ gh = l.length - k ∧ cnt ≤ k ∧ Hid (TIn a W b mb cnt rb v L wr))
    case atStart => exact ⟨0, 0, [], _, rfl, Nat.zero_le _, rfl, Nat.zero_le _, HI0⟩
    case round =>
      clear HI0
      obtain ⟨k, cnt, L, v, rfl, hk, hgm, hcnt, hin⟩ := hrel
      have hcm : cnt < maxLen := by unfold maxLen; omega
      have HCM := Lib.hid hcm
      clear hcm
      by_cases hkl : k < l.length
      · obtain ⟨gb, o, rfl, hgb, hcells⟩ := HC.out (by omega)
        obtain ⟨c0, c1, c2, c3⟩ := hcells k hkl
        replace c0 := (hin.out.o.bel.cell (p := ⟨gb, o + k * 4, none⟩) hgb).trans c0
        replace c1 := (hin.out.o.bel.cell (p := ⟨gb, o + k * 4 + 1, none⟩) hgb).trans c1
        replace c2 := (hin.out.o.bel.cell (p := ⟨gb, o + k * 4 + 2, none⟩) hgb).trans c2
        replace c3 := (hin.out.o.bel.cell (p := ⟨gb, o + k * 4 + 3, none⟩) hgb).trans c3
        have b1 : (0 : Int) ≤ (k : Int) := by omega
        have b2 : (k : Int) < (l.length : Int) := by omega
        obtain ⟨hx0, _, hwn⟩ := HTX.out l[k] (List.getElem_mem hkl)
        have htT : (bs l[k].client).size ≤ maxLen := by rw [bs_size]; exact hx0
        clear hcells hx0
        have e1 : VT l[k].client = .string (bs l[k].client) := rfl
        have e2 : VT l[k].s = .string (bs l[k].s) := rfl
        rw [e1] at c1
        rw [e2] at c2
        clear e1 e2
        generalize bs l[k].client = T at *
        generalize bs l[k].s = X at *
        generalize l[k].note = nt at *
        generalize l[k].n = n at *
        have hAa := hin.out.below ((Below.refl _ _).alloc (Nat.le_refl _) (.cells #[.bool nt, .string T, .string X, .int .i64 n] 73))
        have hRa : CRow wr.heap.size nt T X n (wr.alloc (.cells #[.bool nt, .string T, .string X, .int .i64 n] 73)) := heap_alloc_new wr _
        have hba : wr.heap.size ≠ b ∧ wr.heap.size ≠ mb ∧ wr.heap.size ≠ rb ∧ v.ownBlock ≠ some wr.heap.size := by
          have h1 := hin.out.o.tab.lt
          have h2 := hin.out.o.tab.map.lt
          have h3 := hin.out.r.lt
          refine ⟨by omega, by omega, by omega, fun e => ?_⟩
          have := own_ltO hin.out.r.own e
          omega
        have htT63 : T.size ≤ 9223372036854775807 := by unfold maxLen at htT; omega
        have HIa := Lib.hid hAa
        have HRa := Lib.hid hRa
        have HBA := Lib.hid hba
        have HWN := Lib.hid hwn
        have HTT := Lib.hid (And.intro htT htT63)
        have HLEN := Lib.hid hin.out.len
        have HSRT := Lib.hid hin.out.s
        have HDD := Lib.hid (And.intro hin.out.d1 (And.intro hin.out.d2 hin.out.d3))
        clear hAa hRa hba hwn htT htT63 hin
        cases nt with
        | true =>
          have N1 := Lib.hid (TIn.note1 (a := a) (W := W) (b := b) (mb := mb) (rb := rb) HCM.out (v := v) (L := L) (X := X) HTT.out.1 HWN.out)
          have N2 := Lib.hid (TIn.note2 (a := a) (W := W) (b := b) (mb := mb) (cnt := cnt) (rb := rb) (v := v) (L := L) (T := T) (X := X) HTT.out.2 (n := n) HSRT.out HLEN.out HDD.out.1 HDD.out.2.1 HDD.out.2.2 HRB.out)
          generalize noteC L T.data.toList n = code at *
          generalize noteLs L T.data.toList n X.data.toList = L' at *
          go_wp2
          generalize wr.alloc (.cells #[.bool true, .string T, .string X, .int .i64 n] 73) = wa at *
          generalize wr.heap.size = ba at *
          have hS0 : CRow ba true T X n wa.drew := HRa.out
          refine region_S (fun w' => CRow ba true T X n w') 17 (by kernel_rfl) (by kernel_rfl) ?_
          refine take_S 0 rfl (by kernel_rfl) (by kernel_rfl) hS0 (fun w' hS => by have B0 := (CRow.cells hS).1; have B1 := (CRow.cells hS).2.1; have B2 := (CRow.cells hS).2.2.1; have B3 := (CRow.cells hS).2.2.2; go_simp; rfl) ?_
          try simp only [Act.put, List.getElem_toArray, List.getElem_cons_succ, List.getElem_cons_zero, List.setIfInBounds_toArray, List.set_cons_zero, List.set_cons_succ]
          refine take_S 1 rfl (by kernel_rfl) (by kernel_rfl) hS0 (fun w' hS => by have B0 := (CRow.cells hS).1; have B1 := (CRow.cells hS).2.1; have B2 := (CRow.cells hS).2.2.1; have B3 := (CRow.cells hS).2.2.2; go_simp; rfl) ?_
          try simp only [Act.put, List.getElem_toArray, List.getElem_cons_succ, List.getElem_cons_zero, List.setIfInBounds_toArray, List.set_cons_zero, List.set_cons_succ]
          refine take_S 2 rfl (by kernel_rfl) (by kernel_rfl) hS0 (fun w' hS => by have B0 := (CRow.cells hS).1; have B1 := (CRow.cells hS).2.1; have B2 := (CRow.cells hS).2.2.1; have B3 := (CRow.cells hS).2.2.2; go_simp; rfl) ?_
          try simp only [Act.put, List.getElem_toArray, List.getElem_cons_succ, List.getElem_cons_zero, List.setIfInBounds_toArray, List.set_cons_zero, List.set_cons_succ]
          refine take_S 3 rfl (by kernel_rfl) (by kernel_rfl) hS0 (fun w' hS => by have B0 := (CRow.cells hS).1; have B1 := (CRow.cells hS).2.1; have B2 := (CRow.cells hS).2.2.1; have B3 := (CRow.cells hS).2.2.2; go_simp; rfl) ?_
          try simp only [Act.put, List.getElem_toArray, List.getElem_cons_succ, List.getElem_cons_zero, List.setIfInBounds_toArray, List.set_cons_zero, List.set_cons_succ]
          refine take_S 4 rfl (by kernel_rfl) (by kernel_rfl) hS0 (fun w' hS => by have B0 := (CRow.cells hS).1; have B1 := (CRow.cells hS).2.1; have B2 := (CRow.cells hS).2.2.1; have B3 := (CRow.cells hS).2.2.2; go_simp; rfl) ?_
          try simp only [Act.put, List.getElem_toArray, List.getElem_cons_succ, List.getElem_cons_zero, List.setIfInBounds_toArray, List.set_cons_zero, List.set_cons_succ]
          refine take_S 5 rfl (by kernel_rfl) (by kernel_rfl) hS0 (fun w' hS => by have B0 := (CRow.cells hS).1; have B1 := (CRow.cells hS).2.1; have B2 := (CRow.cells hS).2.2.1; have B3 := (CRow.cells hS).2.2.2; go_simp; rfl) ?_
          try simp only [Act.put, List.getElem_toArray, List.getElem_cons_succ, List.getElem_cons_zero, List.setIfInBounds_toArray, List.set_cons_zero, List.set_cons_succ]
          refine take_S 6 rfl (by kernel_rfl) (by kernel_rfl) hS0 (fun w' hS => by have B0 := (CRow.cells hS).1; have B1 := (CRow.cells hS).2.1; have B2 := (CRow.cells hS).2.2.1; have B3 := (CRow.cells hS).2.2.2; go_simp; rfl) ?_
          try simp only [Act.put, List.getElem_toArray, List.getElem_cons_succ, List.getElem_cons_zero, List.setIfInBounds_toArray, List.set_cons_zero, List.set_cons_succ]
          refine take_S 8 rfl (by kernel_rfl) (by kernel_rfl) hS0 (fun w' hS => by have B0 := (CRow.cells hS).1; have B1 := (CRow.cells hS).2.1; have B2 := (CRow.cells hS).2.2.1; have B3 := (CRow.cells hS).2.2.2; go_simp; rfl) ?_
          try simp only [Act.put, List.getElem_toArray, List.getElem_cons_succ, List.getElem_cons_zero, List.setIfInBounds_toArray, List.set_cons_zero, List.set_cons_succ]
          refine take_S 9 rfl (by kernel_rfl) (by kernel_rfl) hS0 (fun w' hS => by have B0 := (CRow.cells hS).1; have B1 := (CRow.cells hS).2.1; have B2 := (CRow.cells hS).2.2.1; have B3 := (CRow.cells hS).2.2.2; go_simp; rfl) ?_
          try simp only [Act.put, List.getElem_toArray, List.getElem_cons_succ, List.getElem_cons_zero, List.setIfInBounds_toArray, List.set_cons_zero, List.set_cons_succ]
          refine take_S 10 rfl (by kernel_rfl) (by kernel_rfl) hS0 (fun w' hS => by have B0 := (CRow.cells hS).1; have B1 := (CRow.cells hS).2.1; have B2 := (CRow.cells hS).2.2.1; have B3 := (CRow.cells hS).2.2.2; go_simp; rfl) ?_
          try simp only [Act.put, List.getElem_toArray, List.getElem_cons_succ, List.getElem_cons_zero, List.setIfInBounds_toArray, List.set_cons_zero, List.set_cons_succ]
          refine take_S 11 rfl (by kernel_rfl) (by kernel_rfl) hS0 (fun w' hS => by have B0 := (CRow.cells hS).1; have B1 := (CRow.cells hS).2.1; have B2 := (CRow.cells hS).2.2.1; have B3 := (CRow.cells hS).2.2.2; go_simp; rfl) ?_
          try simp only [Act.put, List.getElem_toArray, List.getElem_cons_succ, List.getElem_cons_zero, List.setIfInBounds_toArray, List.set_cons_zero, List.set_cons_succ]
          refine take_S 12 rfl (by kernel_rfl) (by kernel_rfl) hS0 (fun w' hS => by have B0 := (CRow.cells hS).1; have B1 := (CRow.cells hS).2.1; have B2 := (CRow.cells hS).2.2.1; have B3 := (CRow.cells hS).2.2.2; go_simp; rfl) ?_
          try simp only [Act.put, List.getElem_toArray, List.getElem_cons_succ, List.getElem_cons_zero, List.setIfInBounds_toArray, List.set_cons_zero, List.set_cons_succ]
          refine take_S 13 rfl (by kernel_rfl) (by kernel_rfl) hS0 (fun w' hS => by have B0 := (CRow.cells hS).1; have B1 := (CRow.cells hS).2.1; have B2 := (CRow.cells hS).2.2.1; have B3 := (CRow.cells hS).2.2.2; go_simp; rfl) ?_
          try simp only [Act.put, List.getElem_toArray, List.getElem_cons_succ, List.getElem_cons_zero, List.setIfInBounds_toArray, List.set_cons_zero, List.set_cons_succ]
          refine take_S 14 rfl (by kernel_rfl) (by kernel_rfl) hS0 (fun w' hS => by have B0 := (CRow.cells hS).1; have B1 := (CRow.cells hS).2.1; have B2 := (CRow.cells hS).2.2.1; have B3 := (CRow.cells hS).2.2.2; go_simp; rfl) ?_
          try simp only [Act.put, List.getElem_toArray, List.getElem_cons_succ, List.getElem_cons_zero, List.setIfInBounds_toArray, List.set_cons_zero, List.set_cons_succ]
          refine carry_S 7 rfl (by kernel_rfl) (by decide) (by kernel_rfl) (fun K hK => ?_)
          go_simp
          refine (N1.out wa.drew (HIa.out.below (Below.refl _ _).drew)).mono ?_
          rintro e w3 ⟨r, rfl, hr, ho3, hr3, ht3⟩
          have hS3 : CRow ba true T X n w3 := hS0.two ht3 HBA.out.1 HBA.out.2.1
          have HER := Lib.hid hr
          have HO3 := Lib.hid ho3
          have HR3 := Lib.hid hr3
          clear hr ho3 hr3 ht3
          refine hK _ _ hS3 ?_
          clear hK K
          try simp only [Act.put, List.getElem_toArray, List.getElem_cons_succ, List.getElem_cons_zero, List.setIfInBounds_toArray, List.set_cons_zero, List.set_cons_succ]
          refine carry_S 15 rfl (by kernel_rfl) (by decide) (by kernel_rfl) (fun K hK => ?_)
          go_simp
          refine (N2.out w3 HO3.out HR3.out).mono ?_
          rintro e w4 ⟨rfl, ⟨v', hi4⟩, hf4⟩
          have hS4 : CRow ba true T X n w4 := hS3.frame hf4 HBA.out.2.2.1 HBA.out.2.2.2
          have HI4 := Lib.hid hi4
          clear hi4 hf4
          refine hK _ _ hS4 ?_
          clear hK K
          try simp only [Act.put, List.getElem_toArray, List.getElem_cons_succ, List.getElem_cons_zero, List.setIfInBounds_toArray, List.set_cons_zero, List.set_cons_succ]
          refine carry_S 16 rfl (by kernel_rfl) (by decide) (by kernel_rfl) (fun K hK => ?_)
          go_simp
          refine (coded3_any a r code code (-1) w4 HI4.out.o.sen (HER.out w4 HI4.out.o.sen)).mono ?_
          rintro e w5 ⟨rfl, hb5⟩
          have hcs : codedB code code (-1) = true := by unfold codedB; simp
          rw [hcs]
          clear hcs
          have hS5 := hS4.below hb5
          have HI5 := Lib.hid (HI4.out.below hb5)
          clear hb5
          refine hK _ _ hS5 ?_
          clear hK K
          try simp only [Act.put, List.getElem_toArray, List.getElem_cons_succ, List.getElem_cons_zero, List.setIfInBounds_toArray, List.set_cons_zero, List.set_cons_succ]
          refine forced_S (by kernel_rfl) ?_
          simp only [List.drop_succ_cons, List.drop_zero]
          clear hS0 hS3 hS4 hS5 HER HO3 HR3 N1 N2
          go_wp2
          go_roundg (l.length - (k + 1))
          case measure => omega
          case rel => exact ⟨k + 1, cnt + 1, L', v', by go_num, hkl, rfl, by omega, HI5⟩
        | false =>
          obtain ⟨sv, isv, kv, hkv, hV1, hV2⟩ := ask_both a L T.data.toList n
          have A1 := Lib.hid (TIn.ask1 (a := a) (W := W) (b := b) (mb := mb) (cnt := cnt) (rb := rb) (v := v) HTT.out.1 hV1)
          have A2 := Lib.hid (TIn.ask2 (a := a) (W := W) (b := b) (mb := mb) (cnt := cnt) (rb := rb) (v := v) HTT.out.2 hV2)
          have EV : Hid (∀ w, Sents a w → ErrV a (errK a kv) (if kv = 0 then 0 else (kv : Int) + 1) (-1) w) := Lib.hid (fun w h => by
            unfold errK
            by_cases h0 : kv = 0
            · rw [if_pos h0, if_pos h0]; exact ErrV.none a w
            · rw [if_neg h0, if_neg h0]; exact ErrV.sent h kv hkv)
          generalize errK a kv = ev at *
          generalize (if kv = 0 then (0 : Int) else (kv : Int) + 1) = code at *
          clear hV1 hV2 hkv
          generalize bs sv = Sv at *
          go_wp2_with fail
          generalize wr.alloc (.cells #[.bool false, .string T, .string X, .int .i64 n] 73) = wa at *
          generalize wr.heap.size = ba at *
          refine (A1.out wa HIa.out).mono ?_
          rintro e w3 ⟨rfl, hb3⟩
          have HI3 := Lib.hid (HIa.out.below hb3)
          have HR3 := Lib.hid (HRa.out.below hb3)
          obtain ⟨r30, r31, r32, r33⟩ := HR3.out.cells
          clear hb3 A1
          go_wp2_with fail
          refine (A2.out w3 HI3.out).mono ?_
          rintro e w4 ⟨rfl, rfl⟩
          clear A2
          go_wp2_with fail
          refine (coded3_any a ev code code (-1) w3 HI3.out.o.sen (EV.out w3 HI3.out.o.sen)).mono ?_
          rintro e w5 ⟨rfl, hb5⟩
          have hcs : codedB code code (-1) = true := by unfold codedB; simp
          rw [hcs]
          clear hcs
          have HI5 := Lib.hid (HI3.out.below hb5)
          clear hb5
          go_wp2
          go_roundg (l.length - (k + 1))
          case measure => omega
          case rel => exact ⟨k + 1, cnt, L, v, by go_num, hkl, rfl, by omega, HI5⟩
      · obtain rfl : k = l.length := by omega
        go_wp2_with fail
        refine (OCopy_any b mb cnt _ wr hin.out.o.tab).mono ?_
        rintro e w3 ⟨b', mb', rfl, hT', hb3⟩
        have HI3 := Lib.hid (hin.out.below hb3)
        have HT3 := Lib.hid hT'
        have HSD : Hid (Maps.size (dataOf L) ≤ 2 ^ 30) := Lib.hid (by have := hin.out.o.sz; omega)
        have HSRT := Lib.hid hin.out.s
        have HLEN : Hid (L.length ≤ 20) := Lib.hid hin.out.len
        clear hT' hb3 hin
        go_wp2_with fail
        refine (OClients_any b mb cnt (dataOf L) w3 HI3.out.o.tab HSD.out).mono ?_
        rintro e w4 ⟨v1, ss1, rfl, hp1, hrow1, hb4⟩
        have HRD1 := Lib.hid (clients_row HSRT.out hp1 hrow1)
        have HI4 := Lib.hid (HI3.out.below hb4)
        have HT4 := Lib.hid (HT3.out.below hb4)
        clear hp1 hrow1 hb4
        go_wp2_with fail
        refine (RTClients_any rb W.heap.size _ L (by have := HLEN.out; omega) w4 HI4.out.r).mono ?_
        rintro e w5 ⟨v2, rfl, hrow2, hb5⟩
        have HRD2 := Lib.hid (Rd.own hrow2)
        have HRD3 := Lib.hid ((HRD1.out.below hb5).more hb5.size)
        have HI5 := Lib.hid (HI4.out.below hb5)
        have HT5 := Lib.hid (HT4.out.below hb5)
        clear hrow2 hb5
        go_wp2_with fail
        refine (SameTexts_any v1 v2 _ _ w5.heap.size w5 HRD3.out HRD2.out (by rw [List.length_map]; have := HLEN.out; omega) (by rw [List.length_map]; have := HLEN.out; omega)).mono ?_
        rintro e w6 ⟨rfl, q, rfl⟩
        have hdt : decide (L.map (·.1) = L.map (·.1)) = true := by simp
        rw [hdt]
        have HI6 := Lib.hid (HI5.out.below (below_drewN (Below.refl _ _) q))
        have HT6 := Lib.hid (HT5.out.below (below_drewN (Below.refl _ _) q))
        clear hdt HI5 HT5 HRD1 HRD2 HRD3
        generalize w5.drewN q = w6 at *
        go_wp2_with fail
        refine (OClients_any b' mb' cnt (dataOf L) w6 HT6.out HSD.out).mono ?_
        rintro e w7 ⟨v3, ss3, rfl, hp3, hrow3, hb7⟩
        have HRD1 := Lib.hid (clients_row HSRT.out hp3 hrow3)
        have HI7 := Lib.hid (HI6.out.below hb7)
        clear hp3 hrow3 hb7
        go_wp2_with fail
        refine (RTClients_any rb W.heap.size _ L (by have := HLEN.out; omega) w7 HI7.out.r).mono ?_
        rintro e w8 ⟨v4, rfl, hrow4, hb8⟩
        have HRD2 := Lib.hid (Rd.own hrow4)
        have HRD3 := Lib.hid ((HRD1.out.below hb8).more hb8.size)
        have HI8 := Lib.hid (HI7.out.below hb8)
        clear hrow4 hb8
        go_wp2_with fail
        refine (SameTexts_any v3 v4 _ _ w8.heap.size w8 HRD3.out HRD2.out (by rw [List.length_map]; have := HLEN.out; omega) (by rw [List.length_map]; have := HLEN.out; omega)).mono ?_
        rintro e w9 ⟨rfl, q9, rfl⟩
        have hdt : decide (L.map (·.1) = L.map (·.1)) = true := by simp
        rw [hdt]
        clear hdt
        go_wp2
        go_ret
        exact ⟨rfl, below_drewN HI8.out.o.bel _⟩
end Go.Proofs.YtpacalklcdlhoaaDoor

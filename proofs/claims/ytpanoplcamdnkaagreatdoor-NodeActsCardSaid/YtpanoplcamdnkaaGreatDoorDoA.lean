/- Walk of the laws' Do: an act on a node and on its model: both answer the same. Condition: the sentinels lie as named (Sents). -/
import Derived.Test.YtpanoplcamdnkaaGreatDoorRef3
import Derived.Test.YtpanoplcamdnkaaGreatDoorErrV
import Derived.Test.YtpanoplcamdnkaaGreatDoorNod3
namespace Go.Proofs.YtpanoplcamdnkaaGreatDoor
open Go.RowKit Go.Lib Go.Maps

theorem bs_listD (l : Bytes) : (bs l).toList = l := by rw [ByteArray.toList_eq, bs_toList]
def doN (x : ActN) (P : PNode) : PNode :=
  if x.kind = [112, 117, 116] then (putN x.nm x.s P).1 else if x.kind = [100, 114, 111, 112] then (dropN x.nm P).1 else if x.kind = [115, 119, 101, 101, 112] then sweepN P else P
theorem NodeOk.doN {P : PNode} (h : NodeOk P) (x : ActN) : NodeOk (doN x P) := by
  unfold Go.Proofs.YtpanoplcamdnkaaGreatDoor.doN
  split
  · exact h.put _ _
  · split
    · exact h.drop _
    · split
      · exact h.sweep
      · exact h
theorem ES.toE {a : Nat → Addr} {v : Value} {c : Int} {w : World} (h : ES a v c) (hs : Sents a w) : ErrV a v c (-1) w := by
  rcases h with ⟨rfl, rfl⟩ | ⟨k, hk, rfl, rfl⟩
  · exact ErrV.none a w
  · exact ErrV.sent hs k hk
theorem coded2_same (a : Nat → Addr) (v : Value) (c : Int) (w : World) (hs : Sents a w) (h : ES a v c) : Calls Tryz.prog 39 #[v, .int .i64 c] w fun e w' => e = .returned (.bool true) ∧ Below w.heap.size w w' := by
  have := coded2_any a v c c (-1) w hs (h.toE hs)
  rw [show codedB c c (-1) = true by unfold codedB; simp] at this
  exact this
theorem Box3.frs {b : Nat} {x y z : Value} {S : Nat → Prop} {w w' : World} (h : Box3 b x y z w) (hF : FrS S w w') (hne : ¬ S b) : Box3 b x y z w' :=
  ⟨(hF.cell (p := ⟨b, 0, none⟩) h.lt hne).trans h.c0, (hF.cell (p := ⟨b, 1, none⟩) h.lt hne).trans h.c1, (hF.cell (p := ⟨b, 2, none⟩) h.lt hne).trans h.c2⟩
/-- both have done the act -/
def DoPost (base n m : Nat) (P' : PNode) (w0 : World) (e : Ending) (w' : World) : Prop := e = .returned (.int .i64 1) ∧ ∃ f' g', ND base n m P' P' f' g' w0 w'
theorem ND.notN {base n m b : Nat} {P Q : PNode} {f g : Foot} {w0 w : World} (h : ND base n m P Q f g w0 w) (hb : b = w.heap.size) : ¬ f.S b ∧ ¬ g.S b := by
  subst hb
  exact ⟨fun hs => Nat.lt_irrefl _ (h.node.lt _ (.inl hs)), fun hs => Nat.lt_irrefl _ (h.mod.lt _ (.inl hs))⟩
set_option maxRecDepth 100000 in
set_option maxHeartbeats 4000000 in
theorem Do_any (a : Nat → Addr) {base n m : Nat} {P : PNode} {f g : Foot} {w0 : World} (hP : NodeOk P) (x : ActN) (hx : x.nm.length ≤ 30 ∧ x.s.length ≤ 4001) (w : World) (h : ND base n m P P f g w0 w) (hs : ∀ w', Below base w0 w' → Sents a w') :
    Calls Tryz.prog 49 #[.pointer (some ⟨n, 0, none⟩), .pointer (some ⟨m, 0, none⟩), .agg #[.string (bs x.kind), .string (bs x.nm), .string (bs x.s)]] w (DoPost base n m (doN x P) w0) := by
  obtain ⟨KD, NM, SX⟩ := x
  simp only at hx ⊢
  obtain ⟨hx30, hx40⟩ := hx
  have OK := Lib.hid hP
  have HS := Lib.hid hs
  have hb2 : Below w.heap.size w (w.alloc (.cells #[.string (bs KD), .string (bs NM), .string (bs SX)] 29)) := (Below.refl _ _).alloc (Nat.le_refl _) _
  have H2 := Lib.hid (h.below hb2)
  have HX2 : Hid (Box3 w.heap.size (.string (bs KD)) (.string (bs NM)) (.string (bs SX)) (w.alloc (.cells #[.string (bs KD), .string (bs NM), .string (bs SX)] 29))) := Lib.hid (Box3.mk' w (.string (bs KD)) (.string (bs NM)) (.string (bs SX)) 29)
  have HNS := Lib.hid (h.notN (b := w.heap.size) rfl)
  obtain ⟨x0, x1, x2⟩ := HX2.out
  clear h hb2 hP hs
  unfold DoPost
  by_cases k1 : KD = [112, 117, 116]
  · have k1i : ((bs KD).toList == [112, 117, 116]) = true := by rw [k1, bs_listD]; rfl
    have HD : Hid (doN ⟨KD, NM, SX⟩ P = (putN NM SX P).1) := Lib.hid (by unfold doN; rw [if_pos k1])
    have HPUT := Lib.hid (Node.putS a OK.out NM SX (by unfold StrOk maxLen; omega) (w.alloc (.cells #[.string (bs KD), .string (bs NM), .string (bs SX)] 29)) H2.out.node ((HS.out (w.alloc (.cells #[.string (bs KD), .string (bs NM), .string (bs SX)] 29)) H2.out.bel).someS [1, 3, 5, 6, 9] (by decide)))
    have HPR := Lib.hid (fun f' w3 (h3 : ND base n m (putN NM SX P).1 P f' g w0 w3) => RNode.putC OK.out NM SX (by unfold StrOk maxLen; omega) w3 h3.mod)
    have OK' := Lib.hid (OK.out.put NM SX)
    rw [HD.out]
    generalize putN NM SX P = PN at *
    obtain ⟨P', fr, cd⟩ := PN
    simp only at HPUT HPR OK' ⊢
    have qf := beq_self_eq_true fr
    clear k1 HD
    go_enter Tryz.func49, Tryz.ntmps49
    go_wp2_with fail
    generalize w.alloc (.cells #[.string (bs KD), .string (bs NM), .string (bs SX)] 29) = w2 at *
    go_wp2_with fail
    refine HPUT.out.mono ?_
    rintro e w3 ⟨r3, rfl, hes, ht3⟩
    obtain ⟨f3, h3⟩ := H2.out.toN ht3
    have H3 := Lib.hid h3
    have HES := Lib.hid hes
    obtain ⟨_, _, hF3, _⟩ := ht3
    obtain ⟨y0, y1, y2⟩ := HX2.out.frs hF3 HNS.out.1
    clear h3 hes hF3 x0 x1 x2 HPUT
    go_wp2_with fail
    refine (HPR.out f3 w3 H3.out).mono ?_
    rintro e w4 ⟨rfl, ht4⟩
    obtain ⟨g4, h4⟩ := H3.out.toR ht4
    have H4 := Lib.hid h4
    have HCD := Lib.hid (coded2_same a r3 cd w4 (HS.out w4 h4.bel) HES.out)
    clear h4 ht4 y0 y1 y2 HPR
    go_wp2_with fail
    refine HCD.out.mono ?_
    rintro e w5 ⟨rfl, hb5⟩
    have H5 := Lib.hid (H4.out.below hb5)
    clear hb5 HCD
    have HZ1 := Lib.hid (Node.sizeC OK'.out w5 H5.out.node)
    go_wp2_with fail
    refine HZ1.out.mono ?_
    rintro e wy ⟨rfl, hby⟩
    have HY := Lib.hid (H5.out.below hby)
    have HZ2 := Lib.hid (RNode.sizeC OK'.out wy HY.out.mod)
    have qz := beq_self_eq_true (sizeN P')
    clear hby HZ1
    go_wp2_with fail
    refine HZ2.out.mono ?_
    rintro e wx ⟨rfl, hbx⟩
    have HX := Lib.hid (HY.out.below hbx)
    clear hbx HZ2
    go_wp2
    go_ret
    exact ⟨rfl, _, _, HX.out⟩
  · have k1i : ((bs KD).toList == [112, 117, 116]) = false := by rw [bs_listD]; exact beq_eq_false_iff_ne.2 k1
    by_cases k2 : KD = [100, 114, 111, 112]
    · have k2i : ((bs KD).toList == [100, 114, 111, 112]) = true := by rw [k2, bs_listD]; rfl
      have HD : Hid (doN ⟨KD, NM, SX⟩ P = (dropN NM P).1) := Lib.hid (by unfold doN; rw [if_neg k1, if_pos k2])
      rw [HD.out]
      have H2d := Lib.hid (H2.out.below ((Below.refl _ _).drew))
      have HDN := Lib.hid (Node.dropC a OK.out NM (by unfold StrOk maxLen; omega) (w.alloc (.cells #[.string (bs KD), .string (bs NM), .string (bs SX)] 29)).drew H2d.out.node ((HS.out (w.alloc (.cells #[.string (bs KD), .string (bs NM), .string (bs SX)] 29)).drew H2d.out.bel).someS [4, 10] (by decide)))
      have HDR := Lib.hid (fun f' w3 (h3 : ND base n m (dropN NM P).1 P f' g w0 w3) => RNode.dropC OK.out NM w3 h3.mod)
      have OK' := Lib.hid (OK.out.drop NM)
      generalize dropN NM P = PN at *
      obtain ⟨P', cd⟩ := PN
      simp only at HDN HDR OK' ⊢
      clear k1 k2 HD
      go_enter Tryz.func49, Tryz.ntmps49
      go_wp2_with fail
      generalize w.alloc (.cells #[.string (bs KD), .string (bs NM), .string (bs SX)] 29) = w2 at *
      go_wp2
      have hS0 : Box3 w.heap.size (.string (bs KD)) (.string (bs NM)) (.string (bs SX)) w2.drew := ⟨HX2.out.c0, HX2.out.c1, HX2.out.c2⟩
      refine region_S (fun w' => Box3 w.heap.size (.string (bs KD)) (.string (bs NM)) (.string (bs SX)) w') 9 (by kernel_rfl) (by kernel_rfl) ?_
      refine take_S 0 rfl (by kernel_rfl) (by kernel_rfl) hS0 (fun w' hS => by go_simp; rfl) ?_
      refine take_S 1 rfl (by kernel_rfl) (by kernel_rfl) hS0 (fun w' hS => by go_simp; rfl) ?_
      refine take_S 2 rfl (by kernel_rfl) (by kernel_rfl) hS0 (fun w' hS => by have A1 := hS.c1; go_simp; rfl) ?_
      refine take_S 4 rfl (by kernel_rfl) (by kernel_rfl) hS0 (fun w' hS => by go_simp; rfl) ?_
      refine take_S 5 rfl (by kernel_rfl) (by kernel_rfl) hS0 (fun w' hS => by go_simp; rfl) ?_
      refine take_S 6 rfl (by kernel_rfl) (by kernel_rfl) hS0 (fun w' hS => by have A1 := hS.c1; go_simp; rfl) ?_
      refine carry_S 3 rfl (by kernel_rfl) (by decide) (by kernel_rfl) (fun K hK => ?_)
      go_simp
      refine HDN.out.mono ?_
      rintro e w3 ⟨r3, rfl, hes, ht3⟩
      obtain ⟨f3, h3⟩ := H2d.out.toN ht3
      obtain ⟨_, _, hF3, _⟩ := ht3
      have hS1 : Box3 w.heap.size (.string (bs KD)) (.string (bs NM)) (.string (bs SX)) w3 := Box3.frs hS0 hF3 HNS.out.1
      refine hK _ _ hS1 ?_
      clear hK K
      try simp only [Act.put, List.getElem_toArray, List.getElem_cons_succ, List.getElem_cons_zero, List.setIfInBounds_toArray, List.set_cons_zero, List.set_cons_succ]
      refine carry_S 7 rfl (by kernel_rfl) (by decide) (by kernel_rfl) (fun K hK => ?_)
      go_simp
      refine (HDR.out f3 w3 h3).mono ?_
      rintro e w4 ⟨rfl, ht4⟩
      obtain ⟨g4, h4⟩ := h3.toR ht4
      obtain ⟨_, _, hF4, _⟩ := ht4
      have hS2 : Box3 w.heap.size (.string (bs KD)) (.string (bs NM)) (.string (bs SX)) w4 := Box3.frs hS1 hF4 HNS.out.2
      refine hK _ _ hS2 ?_
      clear hK K
      try simp only [Act.put, List.getElem_toArray, List.getElem_cons_succ, List.getElem_cons_zero, List.setIfInBounds_toArray, List.set_cons_zero, List.set_cons_succ]
      refine carry_S 8 rfl (by kernel_rfl) (by decide) (by kernel_rfl) (fun K hK => ?_)
      go_simp
      refine (coded2_same a r3 cd w4 (HS.out w4 h4.bel) hes).mono ?_
      rintro e w5 ⟨rfl, hb5⟩
      have hS3 : Box3 w.heap.size (.string (bs KD)) (.string (bs NM)) (.string (bs SX)) w5 := hS2.below hb5 hS2.lt
      refine hK _ _ hS3 (forced_S (by kernel_rfl) ?_)
      clear hK K
      try simp only [Act.put, List.getElem_toArray, List.getElem_cons_succ, List.getElem_cons_zero, List.setIfInBounds_toArray, List.set_cons_zero, List.set_cons_succ]
      simp only [List.drop_succ_cons, List.drop_zero]
      have H5 := Lib.hid (h4.below hb5)
      clear hS0 hS1 hS2 hS3 hF3 hF4 h3 h4 hes hb5 HDN HDR
      have HZ1 := Lib.hid (Node.sizeC OK'.out w5 H5.out.node)
      go_wp2_with fail
      refine HZ1.out.mono ?_
      rintro e wy ⟨rfl, hby⟩
      have HY := Lib.hid (H5.out.below hby)
      have HZ2 := Lib.hid (RNode.sizeC OK'.out wy HY.out.mod)
      have qz := beq_self_eq_true (sizeN P')
      clear hby HZ1
      go_wp2_with fail
      refine HZ2.out.mono ?_
      rintro e wx ⟨rfl, hbx⟩
      have HX := Lib.hid (HY.out.below hbx)
      clear hbx HZ2
      go_wp2
      go_ret
      exact ⟨rfl, _, _, HX.out⟩
    · have k2i : ((bs KD).toList == [100, 114, 111, 112]) = false := by rw [bs_listD]; exact beq_eq_false_iff_ne.2 k2
      by_cases k3 : KD = [115, 119, 101, 101, 112]
      · have k3i : ((bs KD).toList == [115, 119, 101, 101, 112]) = true := by rw [k3, bs_listD]; rfl
        have HD : Hid (doN ⟨KD, NM, SX⟩ P = sweepN P) := Lib.hid (by unfold doN; rw [if_neg k1, if_neg k2, if_pos k3])
        rw [HD.out]
        have HSW := Lib.hid (Node.sweepC OK.out (w.alloc (.cells #[.string (bs KD), .string (bs NM), .string (bs SX)] 29)) H2.out.node)
        have HSR := Lib.hid (fun f' w3 (h3 : ND base n m (sweepN P) P f' g w0 w3) => RNode.sweepC OK.out w3 h3.mod)
        have OK' := Lib.hid OK.out.sweep
        generalize sweepN P = P' at *
        generalize hfr : sizeN P - sizeN P' = fr at *
        have qf := beq_self_eq_true fr
        clear k1 k2 k3 HD hfr
        go_enter Tryz.func49, Tryz.ntmps49
        go_wp2_with fail
        generalize w.alloc (.cells #[.string (bs KD), .string (bs NM), .string (bs SX)] 29) = w2 at *
        go_wp2_with fail
        refine HSW.out.mono ?_
        rintro e w3 ⟨rfl, ht3⟩
        obtain ⟨f3, h3⟩ := H2.out.toN ht3
        have H3 := Lib.hid h3
        clear h3 ht3 x0 x1 x2 HSW
        go_wp2_with fail
        refine (HSR.out f3 w3 H3.out).mono ?_
        rintro e w4 ⟨rfl, ht4⟩
        obtain ⟨g4, h4⟩ := H3.out.toR ht4
        have H4 := Lib.hid h4
        clear h4 ht4 HSR
        have HZ1 := Lib.hid (Node.sizeC OK'.out w4 H4.out.node)
        go_wp2_with fail
        refine HZ1.out.mono ?_
        rintro e wy ⟨rfl, hby⟩
        have HY := Lib.hid (H4.out.below hby)
        have HZ2 := Lib.hid (RNode.sizeC OK'.out wy HY.out.mod)
        have qz := beq_self_eq_true (sizeN P')
        clear hby HZ1
        go_wp2_with fail
        refine HZ2.out.mono ?_
        rintro e wx ⟨rfl, hbx⟩
        have HX := Lib.hid (HY.out.below hbx)
        clear hbx HZ2
        go_wp2
        go_ret
        exact ⟨rfl, _, _, HX.out⟩
      · have k3i : ((bs KD).toList == [115, 119, 101, 101, 112]) = false := by rw [bs_listD]; exact beq_eq_false_iff_ne.2 k3
        have HD : Hid (doN ⟨KD, NM, SX⟩ P = P) := Lib.hid (by unfold doN; rw [if_neg k1, if_neg k2, if_neg k3])
        rw [HD.out]
        have HG := Lib.hid (Node.getC a OK.out NM (by unfold StrOk maxLen; omega) (w.alloc (.cells #[.string (bs KD), .string (bs NM), .string (bs SX)] 29)) H2.out.node ((HS.out (w.alloc (.cells #[.string (bs KD), .string (bs NM), .string (bs SX)] 29)) H2.out.bel).someS [1, 2, 3, 4, 6, 8] (by decide)))
        have HGR := Lib.hid (fun w3 (h3 : ND base n m P P f g w0 w3) => RNode.getC OK.out NM w3 h3.mod)
        unfold GetPost at HG
        generalize getN NM P = PN at *
        obtain ⟨gs, cd⟩ := PN
        simp only at HG HGR
        have qf := beq_self_eq_true (bs gs).toList
        clear k1 k2 k3 HD
        go_enter Tryz.func49, Tryz.ntmps49
        go_wp2_with fail
        generalize w.alloc (.cells #[.string (bs KD), .string (bs NM), .string (bs SX)] 29) = w2 at *
        go_wp2_with fail
        refine HG.out.mono ?_
        rintro e w3 ⟨r3, rfl, hes, hb3⟩
        have H3 := Lib.hid (H2.out.below hb3)
        have HES := Lib.hid hes
        obtain ⟨y0, y1, y2⟩ := HX2.out.below hb3 HX2.out.lt
        clear hb3 hes x0 x1 x2 HG
        go_wp2_with fail
        refine (HGR.out w3 H3.out).mono ?_
        rintro e w4 ⟨rfl, hb4⟩
        have H4 := Lib.hid (H3.out.below hb4)
        have HCD := Lib.hid (coded2_same a r3 cd w4 (HS.out w4 H4.out.bel) HES.out)
        clear hb4 y0 y1 y2 HGR
        go_wp2_with fail
        refine HCD.out.mono ?_
        rintro e w5 ⟨rfl, hb5⟩
        have H5 := Lib.hid (H4.out.below hb5)
        clear hb5 HCD
        have HZ1 := Lib.hid (Node.sizeC OK.out w5 H5.out.node)
        go_wp2_with fail
        refine HZ1.out.mono ?_
        rintro e wy ⟨rfl, hby⟩
        have HY := Lib.hid (H5.out.below hby)
        have HZ2 := Lib.hid (RNode.sizeC OK.out wy HY.out.mod)
        have qz := beq_self_eq_true (sizeN P)
        clear hby HZ1
        go_wp2_with fail
        refine HZ2.out.mono ?_
        rintro e wx ⟨rfl, hbx⟩
        have HX := Lib.hid (HY.out.below hbx)
        clear hbx HZ2
        go_wp2
        go_ret
        exact ⟨rfl, _, _, HX.out⟩
end Go.Proofs.YtpanoplcamdnkaaGreatDoor

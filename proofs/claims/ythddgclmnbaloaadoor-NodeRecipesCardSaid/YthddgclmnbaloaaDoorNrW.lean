/- Walk of the law NodeRecipes. Condition: the sentinels that are read lie as named (SomeS). -/
import Derived.Test.YthddgclmnbaloaaDoorNlA
import Derived.Test.YthddgclmnbaloaaDoorRcS
import Derived.Test.YthddgclmnbaloaaDoorHel2
namespace Go.Proofs.YthddgclmnbaloaaDoor
open Go.RowKit Go.Lib

theorem putN_ok {nm s : Bytes} {P : PNode} (h : (putN nm s P).2.2 = 0) : isName nm = true ∧ s.length ≤ 4000 ∧ alGet (putN nm s P).1.files nm = some (rcpOf nm s) ∧ ∃ L, alGet (putN nm s P).1.bins (repOf (idsOf s)) = some L := by
  unfold putN at h ⊢
  split at h
  · exact absurd (show (4 : Int) = 0 from h) (by decide)
  · next h1 =>
    rw [if_neg h1]
    split at h
    · exact absurd (show (2 : Int) = 0 from h) (by decide)
    · next h2 =>
      rw [if_neg h2]
      split at h
      · exact absurd (show (6 : Int) = 0 from h) (by decide)
      · next h3 =>
        rw [if_neg h3]
        split at h
        · exact absurd (show (7 : Int) = 0 from h) (by decide)
        · next h4 =>
          rw [if_neg h4]
          split at h
          · next h5 =>
            rw [if_pos h5]
            refine ⟨by simpa using h1, by omega, ?_, (putAll (pieces s) (binN P (repOf (idsOf s))) 0).1, ?_⟩
            · show alGet (alPut bytesBefore nm (rcpOf nm s) P.files) nm = _
              rw [alGet_put, if_pos rfl]
            · show alGet (alPut lesser (repOf (idsOf s)) _ P.bins) (repOf (idsOf s)) = _
              rw [alGet_put, if_pos rfl]
          · next h5 => exact absurd h h5
set_option maxRecDepth 100000 in
theorem NodeRecipes_long (a : Nat → Addr) (v : Value) (l : List ActN) (hl : l.length ≤ maxLen) (hz : ∀ x ∈ l, x.kind.length ≤ maxLen ∧ x.nm.length ≤ maxLen ∧ x.s.length ≤ maxLen) (hlong : longNs l 40 = 1) (w : World) (hv : ActNRd w w.heap.size v l) (h : SomeS [1, 2, 3, 4, 5, 6, 8, 9] a w) :
    Calls Tryd.prog 3 #[v] w fun e w' => e = .returned (.bool true) ∧ Below w.heap.size w w' := by
  have HB := Lib.hid (noded_any a w h)
  have HLA := Lib.hid (fun w1 (hb : Below w.heap.size w w1) => LongActs_any v l hl hz 40 (by decide) _ w1 (hv.below hb))
  have HLG := Lib.hid hlong
  clear h hv hlong
  go_enter Tryd.func3, Tryd.ntmps3
  go_wp2_with fail
  refine HB.out.mono ?_
  rintro e w1 ⟨rfl, hb1⟩
  go_wp2_with fail
  refine (HLA.out w1 hb1).mono ?_
  rintro e w2 ⟨rfl, rfl⟩
  rw [HLG.out]
  have HB1 := Lib.hid hb1
  clear hb1
  go_wp2
  go_ret
  exact ⟨rfl, HB1.out⟩
set_option maxRecDepth 100000 in
set_option maxHeartbeats 8000000 in
theorem NodeRecipes_main (a : Nat → Addr) (v : Value) (l : List ActN) (hl : l.length ≤ maxLen) (hz : ∀ x ∈ l, x.kind.length ≤ maxLen ∧ x.nm.length ≤ maxLen ∧ x.s.length ≤ maxLen) (hlong : longNs l 40 = 0) (w : World) (hv : ActNRd w w.heap.size v l) (h : SomeS [1, 2, 3, 4, 5, 6, 8, 9] a w) :
    Calls Tryd.prog 3 #[v] w fun e w' => e = .returned (.bool true) ∧ Below w.heap.size w w' := by
  obtain ⟨hl40, hx40⟩ := longNs_zero hlong
  have HB := Lib.hid (noded_any a w h)
  have HLA := Lib.hid (fun w1 (hb : Below w.heap.size w w1) => LongActs_any v l hl hz 40 (by decide) _ w1 (hv.below hb))
  have HLG := Lib.hid hlong
  have HS := Lib.hid h
  have HXL := Lib.hid hx40
  obtain ⟨A, c, rfl, hlc, hx⟩ := hv
  have HX := Lib.hid hx
  clear h hlong hx hx40
  go_enter Tryd.func3, Tryd.ntmps3
  go_wp2_with fail
  refine HB.out.mono ?_
  rintro e w1 ⟨rfl, hb1⟩
  go_wp2_with fail
  refine (HLA.out w1 hb1).mono ?_
  rintro e w1' ⟨rfl, rfl⟩
  rw [HLG.out]
  have HB1 := Lib.hid hb1
  clear hb1 HLA
  go_wp2_with fail
  refine (NdNew_any w1).mono ?_
  rintro e w2 ⟨n, f0, rfl, hn, hge, hb2⟩
  have H2 := Lib.hid (NIn.new (base := w.heap.size) hn (fun q hq => Nat.le_trans HB1.out.size (hge q hq)) (HB1.out.trans (hb2.mono HB1.out.size)) (Nat.le_trans HB1.out.size hb2.size))
  clear hn hge hb2 HB1
  go_wp2
  go_loopg [5] l.length (fun gh v5 wr => ∃ (k : Nat) (P : PNode) (f : Foot), v5 = .int .i64 k ∧ k ≤ l.length ∧ gh = l.length - k ∧ Hid (NodeOk P) ∧ Hid (NIn w.heap.size n P f w wr))
  case atStart => exact ⟨0, ⟨[], []⟩, f0, rfl, Nat.zero_le _, rfl, Lib.hid NodeOk.nil, H2⟩
  case round =>
    obtain ⟨k, P, f, rfl, hk, hgm, HOK, H⟩ := hrel
    by_cases hkl : k < l.length
    · obtain ⟨g, o, rfl, hg, hcells⟩ := HX.out (by omega)
      obtain ⟨c0, c1, c2⟩ := hcells k hkl
      have b1 : (0 : Int) ≤ (k : Int) := by omega
      have b2 : (k : Int) < (l.length : Int) := by omega
      obtain ⟨hx20, hx30, hx600⟩ := HXL.out l[k] (List.getElem_mem hkl)
      generalize l[k].kind = KD at *
      generalize l[k].nm = nm at *
      generalize l[k].s = sx at *
      have HC : Hid (∀ f P w', NIn w.heap.size n P f w w' → w'.cell? ⟨g, o + k * 3, none⟩ = some (.string (bs KD)) ∧ w'.cell? ⟨g, o + k * 3 + 1, none⟩ = some (.string (bs nm)) ∧ w'.cell? ⟨g, o + k * 3 + 2, none⟩ = some (.string (bs sx))) := Lib.hid (fun f P w' h => ⟨(h.bel.cell (p := ⟨g, o + k * 3, none⟩) hg).trans c0, (h.bel.cell (p := ⟨g, o + k * 3 + 1, none⟩) hg).trans c1, (h.bel.cell (p := ⟨g, o + k * 3 + 2, none⟩) hg).trans c2⟩)
      obtain ⟨d0, d1, d2⟩ := HC.out f P wr H.out
      have hgw : g < wr.heap.size := Nat.lt_of_lt_of_le hg H.out.sz
      have HCW : Hid (w.cell? ⟨g, o + k * 3 + 1, none⟩ = some (.string (bs nm)) ∧ w.cell? ⟨g, o + k * 3 + 2, none⟩ = some (.string (bs sx))) := Lib.hid ⟨c1, c2⟩
      clear hcells c0 c1 c2
      by_cases k1 : KD = [112, 117, 116]
      · have k1i : ((bs KD).toList == [112, 117, 116]) = true := by rw [k1, ByteArray.toList_eq, bs_toList]; rfl
        have k1j : ((bs KD).toList != [112, 117, 116]) = false := by rw [k1, ByteArray.toList_eq, bs_toList]; rfl
        clear k1
        have HD := Lib.hid (H.out.below (Below.refl wr.heap.size wr).drew)
        have hso : StrOk nm := by unfold StrOk maxLen; omega
        have HPUT := Lib.hid (Node.putC a HOK.out nm sx hso wr.drew HD.out.node ((HS.out.below HD.out.bel).sub (js := [1, 3, 5, 6, 9]) (by decide)))
        have HOKP := HOK.out.put nm sx
        have hpo := fun h => putN_ok (nm := nm) (s := sx) (P := P) h
        generalize hpn : putN nm sx P = PN at *
        obtain ⟨P', fr, cd⟩ := PN
        simp only at HPUT HOKP hpo
        have HOK' := Lib.hid HOKP
        have HPO := Lib.hid hpo
        clear d1 d2 HOKP hpo hpn
        go_wp2
        have hS0 : Below w.heap.size w wr.drew := H.out.bel.drew
        refine region_S (fun w' => Below w.heap.size w w') 16 (by kernel_rfl) (by kernel_rfl) ?_
        refine take_S 0 rfl (by kernel_rfl) (by kernel_rfl) hS0 (fun w' hS => by go_simp; rfl) ?_
        refine take_S 1 rfl (by kernel_rfl) (by kernel_rfl) hS0 (fun w' hS => by go_simp; rfl) ?_
        refine take_S 2 rfl (by kernel_rfl) (by kernel_rfl) hS0 (fun w' hS => by go_simp; rfl) ?_
        refine take_S 3 rfl (by kernel_rfl) (by kernel_rfl) hS0 (fun w' hS => by go_simp; rfl) ?_
        refine take_S 4 rfl (by kernel_rfl) (by kernel_rfl) hS0 (fun w' hS => by go_simp; rfl) ?_
        refine take_S 5 rfl (by kernel_rfl) (by kernel_rfl) hS0 (fun w' hS => by have A0 := (hS.cell (p := ⟨g, o + k * 3 + 1, none⟩) hg).trans HCW.out.1; go_simp; rfl) ?_
        refine take_S 6 rfl (by kernel_rfl) (by kernel_rfl) hS0 (fun w' hS => by go_simp; rfl) ?_
        refine take_S 7 rfl (by kernel_rfl) (by kernel_rfl) hS0 (fun w' hS => by go_simp; rfl) ?_
        refine take_S 8 rfl (by kernel_rfl) (by kernel_rfl) hS0 (fun w' hS => by go_simp; rfl) ?_
        refine take_S 9 rfl (by kernel_rfl) (by kernel_rfl) hS0 (fun w' hS => by go_simp; rfl) ?_
        refine take_S 10 rfl (by kernel_rfl) (by kernel_rfl) hS0 (fun w' hS => by have A0 := (hS.cell (p := ⟨g, o + k * 3 + 2, none⟩) hg).trans HCW.out.2; go_simp; rfl) ?_
        refine carry_S 11 rfl (by kernel_rfl) (by decide) (by kernel_rfl) (fun K hK => ?_)
        go_simp
        refine HPUT.out.mono ?_
        rintro e w2' ⟨r2, rfl, hev2, ht2⟩
        obtain ⟨f2, h2⟩ := HD.out.to ht2
        have H2' := Lib.hid h2
        have hS1 := h2.bel
        refine hK _ _ hS1 ?_
        clear hK K
        try simp only [Act.put, List.getElem_toArray, List.getElem_cons_succ, List.getElem_cons_zero, List.setIfInBounds_toArray, List.set_cons_zero, List.set_cons_succ]
        refine take_S 12 rfl (by kernel_rfl) (by kernel_rfl) hS1 (fun w' hS => by go_simp; rfl) ?_
        refine take_S 13 rfl (by kernel_rfl) (by kernel_rfl) hS1 (fun w' hS => by go_simp; rfl) ?_
        refine take_S 14 rfl (by kernel_rfl) (by kernel_rfl) hS1 (fun w' hS => by go_simp; rfl) ?_
        refine carry_S 15 rfl (by kernel_rfl) (by decide) (by kernel_rfl) (fun K hK => ?_)
        go_simp
        refine hK _ _ hS1 (forced_S (by kernel_rfl) ?_)
        clear hK K
        try simp only [Act.put, List.getElem_toArray, List.getElem_cons_succ, List.getElem_cons_zero, List.setIfInBounds_toArray, List.set_cons_zero, List.set_cons_succ]
        simp only [List.drop_succ_cons, List.drop_zero]
        clear hS0 hS1 d0
        by_cases hc : cd = 0
        · subst hc
          obtain ⟨rfl, _⟩ := hev2.nil rfl
          obtain ⟨hnm, hsz, hfi, L, hbi⟩ := HPO.out rfl
          have hrec : recN nm P' = (0, rcpOf nm sx) := by unfold recN; rw [hfi]
          have hofr : ofRes nm sx = (0, rcpOf nm sx) := (if_neg (by rw [hnm]; decide)).trans (if_neg (by omega))
          have hidl : (rcpOf nm sx).ids.length ≤ 250 := idsOf_le hsz
          have HREC := Lib.hid (Node.recipeC a HOK'.out nm hso w2' H2'.out.node ((HS.out.below H2'.out.bel).sub (js := [4]) (by decide)))
          rw [hrec] at HREC
          obtain ⟨X, hX⟩ : ∃ X, X = repOf (idsOf sx) := ⟨_, rfl⟩
          have HRX : Hid (repOf (rcpOf nm sx).ids = X) := Lib.hid hX.symm
          have hxo : IdOk X := by rw [hX]; exact (rep_ok0 sx).1
          rw [← hX] at hbi
          have HBIN : Hid (∀ w' f', NIn w.heap.size n P' f' w w' → Calls Tryd.prog 12 #[.pointer (some ⟨n, 0, none⟩), idV X] w' fun e w2 => ∃ b2 mb2, e = .returned (.pointer (some ⟨b2, 0, none⟩)) ∧ OBin b2 mb2 L w2 ∧ w'.heap.size ≤ b2 ∧ w'.heap.size ≤ mb2 ∧ Below w'.heap.size w' w2) := Lib.hid (fun w' f' h => by
            have := Node.binC HOK'.out X hxo w' h.node
            unfold BinPost at this
            rw [hbi] at this
            exact this)
          obtain ⟨p0, p1, p2⟩ := HC.out f2 P' w2' H2'.out
          clear hev2 ht2 h2 hnm hfi hbi hrec hX hxo HPO HPUT
          go_wp2_with fail
          refine HREC.out.mono ?_
          rintro e w3 ⟨v3, r3, rfl, hev3, ⟨sl3, rfl, hsl3⟩, hb3⟩
          obtain ⟨rfl, _⟩ := hev3.nil rfl
          obtain ⟨A3, c3, rfl⟩ : ∃ A c, sl3 = .slice A (rcpOf nm sx).ids.length c := by obtain ⟨A, c, h, _⟩ := hsl3; exact ⟨A, c, h⟩
          have hb4 : Below w3.heap.size w3 (w3.alloc (.cells #[VT (rcpOf nm sx).name, .int .i64 (rcpOf nm sx).len, .int .u32 ((rcpOf nm sx).print : Int), .slice A3 (rcpOf nm sx).ids.length c3] 36)) := (Below.refl _ _).alloc (Nat.le_refl _) _
          have H4 := Lib.hid ((H2'.out.below hb3).below hb4)
          have HX4 := Lib.hid (Box4.mk' w3 (VT (rcpOf nm sx).name) (.int .i64 (rcpOf nm sx).len) (.int .u32 ((rcpOf nm sx).print : Int)) (.slice A3 (rcpOf nm sx).ids.length c3) 36)
          have HRA4 := Lib.hid (((hsl3.rd).keep hb4 (Nat.le_refl _)).more hb4.size)
          clear hev3 hsl3 hb3 hb4 p0 p1 p2 HREC
          go_wp2
          generalize w3.alloc (.cells #[VT (rcpOf nm sx).name, .int .i64 (rcpOf nm sx).len, .int .u32 ((rcpOf nm sx).print : Int), .slice A3 (rcpOf nm sx).ids.length c3] 36) = w4 at *
          generalize w3.heap.size = bA at *
          obtain ⟨_, q1, q2⟩ := HC.out f2 P' w4 H4.out
          have hgw4 : g < w4.heap.size := Nat.lt_of_lt_of_le hg H4.out.sz
          have hnz : (bs nm).size ≤ maxLen := by rw [bs_size]; exact hso
          have HOF : Hid (∀ w', Below w4.heap.size w4 w' → Calls Tryd.prog 10 #[.string (bs nm), .string (bs sx)] w' fun e w2 => ∃ v r, e = .returned (.tuple #[v, r]) ∧ EV a r 0 (-1) w2 ∧ RcpW w2 w'.heap.size w2.heap.size v (rcpOf nm sx) ∧ Below w'.heap.size w' w2) := Lib.hid (fun w' hb => by
            have := RcOf_at a (bs nm) (bs sx) hnz w' ((HS.out.below (H4.out.below hb).bel).sub (js := [1, 3]) (by decide))
            rw [bs_toList, bs_toList, hofr] at this
            exact this)
          clear hofr
          have hS0 : Below w4.heap.size w4 w4.drew := (Below.refl _ _).drew
          refine region_S (fun w' => Below w4.heap.size w4 w') 16 (by kernel_rfl) (by kernel_rfl) ?_
          refine take_S 0 rfl (by kernel_rfl) (by kernel_rfl) hS0 (fun w' hS => by go_simp; rfl) ?_
          refine take_S 1 rfl (by kernel_rfl) (by kernel_rfl) hS0 (fun w' hS => by go_simp; rfl) ?_
          refine take_S 2 rfl (by kernel_rfl) (by kernel_rfl) hS0 (fun w' hS => by go_simp; rfl) ?_
          refine take_S 3 rfl (by kernel_rfl) (by kernel_rfl) hS0 (fun w' hS => by go_simp; rfl) ?_
          refine take_S 4 rfl (by kernel_rfl) (by kernel_rfl) hS0 (fun w' hS => by have A0 := (hS.cell (p := ⟨g, o + k * 3 + 1, none⟩) hgw4).trans q1; go_simp; rfl) ?_
          refine take_S 5 rfl (by kernel_rfl) (by kernel_rfl) hS0 (fun w' hS => by go_simp; rfl) ?_
          refine take_S 6 rfl (by kernel_rfl) (by kernel_rfl) hS0 (fun w' hS => by go_simp; rfl) ?_
          refine take_S 7 rfl (by kernel_rfl) (by kernel_rfl) hS0 (fun w' hS => by go_simp; rfl) ?_
          refine take_S 8 rfl (by kernel_rfl) (by kernel_rfl) hS0 (fun w' hS => by go_simp; rfl) ?_
          refine take_S 9 rfl (by kernel_rfl) (by kernel_rfl) hS0 (fun w' hS => by have A0 := (hS.cell (p := ⟨g, o + k * 3 + 2, none⟩) hgw4).trans q2; go_simp; rfl) ?_
          refine carry2_S 10 14 rfl rfl (by kernel_rfl) (by decide) (by decide) (by kernel_rfl) (by kernel_rfl) (fun K hK => ?_) (fun K hK => ?_)
          · go_simp
            refine (HOF.out w4.drew (hS0)).mono ?_
            rintro e w5 ⟨v5, r5, rfl, hev5, ⟨sl5, rfl, hsl5⟩, hb5⟩
            obtain ⟨rfl, _⟩ := hev5.nil rfl
            obtain ⟨A5, c5, rfl⟩ : ∃ A c, sl5 = .slice A (rcpOf nm sx).ids.length c := by obtain ⟨A, c, h, _⟩ := hsl5; exact ⟨A, c, h⟩
            have hS1 : Below w4.heap.size w4 w5 := hS0.trans hb5
            refine hK _ _ hS1 ?_
            clear hK K
            try simp only [Act.put, List.getElem_toArray, List.getElem_cons_succ, List.getElem_cons_zero, List.setIfInBounds_toArray, List.set_cons_zero, List.set_cons_succ]
            refine take_S 11 rfl (by kernel_rfl) (by kernel_rfl) hS1 (fun w' hS => by go_simp; rfl) ?_
            refine take_S 12 rfl (by kernel_rfl) (by kernel_rfl) hS1 (fun w' hS => by go_simp; rfl) ?_
            refine take_S 13 rfl (by kernel_rfl) (by kernel_rfl) hS1 (fun w' hS => by go_simp; rfl) ?_
            refine carry_S 14 rfl (by kernel_rfl) (by decide) (by kernel_rfl) (fun K hK => ?_)
            go_simp
            have hS2 : Below w4.heap.size w4 (w5.alloc (.cells #[.string ⟨#[]⟩, .int .i64 0, .int .u32 0, .slice none 0 0] 36)) := hS1.alloc hS1.size _
            have HBX := Lib.hid (Box4.mk' w5 (.string ⟨#[]⟩) (.int .i64 0) (.int .u32 0) (.slice none 0 0) 36)
            have HRV := Lib.hid (hsl5.below ((Below.refl w5.heap.size w5).alloc (Nat.le_refl _) (.cells #[.string ⟨#[]⟩, .int .i64 0, .int .u32 0, .slice none 0 0] 36)) (Nat.le_refl _))
            have hbxl : w4.heap.size ≤ w5.heap.size := hS1.size
            have hbxe : ∀ q : Nat, q < w5.heap.size → q ≠ w5.heap.size := fun q h => Nat.ne_of_lt h
            refine hK _ _ hS2 ?_
            clear hK K hsl5 hb5
            try simp only [Act.put, List.getElem_toArray, List.getElem_cons_succ, List.getElem_cons_zero, List.setIfInBounds_toArray, List.set_cons_zero, List.set_cons_succ]
            generalize w5.alloc (.cells #[.string ⟨#[]⟩, .int .i64 0, .int .u32 0, .slice none 0 0] 36) = w6 at *
            generalize w5.heap.size = bx at *
            obtain ⟨b0, b1', b2', b3', bf⟩ := HBX.out
            have bf0 := bf 0
            have bf1 := bf 1
            have bf2 := bf 2
            have bf3 := bf 3
            have hS3 : Below w4.heap.size w4 ((((w6.setCell ⟨bx, 0, none⟩ (VT (rcpOf nm sx).name)).setCell ⟨bx, 1, none⟩ (.int .i64 (rcpOf nm sx).len)).setCell ⟨bx, 2, none⟩ (.int .u32 ((rcpOf nm sx).print : Int))).setCell ⟨bx, 3, none⟩ (.slice A5 (rcpOf nm sx).ids.length c5)) := below_set4 hS2 hbxl (VT (rcpOf nm sx).name) (.int .i64 (rcpOf nm sx).len) (.int .u32 ((rcpOf nm sx).print : Int)) (.slice A5 (rcpOf nm sx).ids.length c5)
            refine carry_S 15 rfl (by kernel_rfl) (by decide) (by kernel_rfl) (fun K hK => ?_)
            go_simp
            refine hK _ _ hS3 (forced_S (by kernel_rfl) ?_)
            clear hK K
            try simp only [Act.put, List.getElem_toArray, List.getElem_cons_succ, List.getElem_cons_zero, List.setIfInBounds_toArray, List.set_cons_zero, List.set_cons_succ]
            simp only [List.drop_succ_cons, List.drop_zero]
            have HBX7 := Lib.hid (HBX.out.set (VT (rcpOf nm sx).name) (.int .i64 (rcpOf nm sx).len) (.int .u32 ((rcpOf nm sx).print : Int)) (.slice A5 (rcpOf nm sx).ids.length c5))
            have hz7 := size_set4 w6 bx (VT (rcpOf nm sx).name) (.int .i64 (rcpOf nm sx).len) (.int .u32 ((rcpOf nm sx).print : Int)) (.slice A5 (rcpOf nm sx).ids.length c5)
            have HR7 : Hid (RdI ((((w6.setCell ⟨bx, 0, none⟩ (VT (rcpOf nm sx).name)).setCell ⟨bx, 1, none⟩ (.int .i64 (rcpOf nm sx).len)).setCell ⟨bx, 2, none⟩ (.int .u32 ((rcpOf nm sx).print : Int))).setCell ⟨bx, 3, none⟩ (.slice A5 (rcpOf nm sx).ids.length c5)) ((((w6.setCell ⟨bx, 0, none⟩ (VT (rcpOf nm sx).name)).setCell ⟨bx, 1, none⟩ (.int .i64 (rcpOf nm sx).len)).setCell ⟨bx, 2, none⟩ (.int .u32 ((rcpOf nm sx).print : Int))).setCell ⟨bx, 3, none⟩ (.slice A5 (rcpOf nm sx).ids.length c5)).heap.size (.slice A5 (rcpOf nm sx).ids.length c5) (rcpOf nm sx).ids) := Lib.hid (by rw [hz7]; exact (HRV.out.keep (fun p h1 h2 => cell_set4 _ _ _ _ _ (by omega)) (Nat.le_refl _) (Nat.le_refl _)).rd.more (by have := HBX.out.lt; omega))
            generalize ((((w6.setCell ⟨bx, 0, none⟩ (VT (rcpOf nm sx).name)).setCell ⟨bx, 1, none⟩ (.int .i64 (rcpOf nm sx).len)).setCell ⟨bx, 2, none⟩ (.int .u32 ((rcpOf nm sx).print : Int))).setCell ⟨bx, 3, none⟩ (.slice A5 (rcpOf nm sx).ids.length c5)) = w7 at *
            have H7 := Lib.hid (H4.out.below hS3)
            have HX7 := Lib.hid (HX4.out.below hS3 HX4.out.lt)
            have HRA7 := Lib.hid ((HRA4.out.keep hS3 (Nat.le_refl _)).more hS3.size)
            clear hS0 hS1 hS2 hS3 HBX HRV b0 b1' b2' b3' bf bf0 bf1 bf2 bf3 hz7 H4 HX4 HRA4 q1 q2
            obtain ⟨x0, x1, x2, x3, _⟩ := HX7.out
            obtain ⟨y0, y1, y2, y3, _⟩ := HBX7.out
            go_wp2_with fail
            refine (SameRecipe_same (.agg #[VT (rcpOf nm sx).name, .int .i64 (rcpOf nm sx).len, .int .u32 ((rcpOf nm sx).print : Int), .slice A3 (rcpOf nm sx).ids.length c3]) (.agg #[VT (rcpOf nm sx).name, .int .i64 (rcpOf nm sx).len, .int .u32 ((rcpOf nm sx).print : Int), .slice A5 (rcpOf nm sx).ids.length c5]) (rcpOf nm sx) (by omega) w7 ⟨_, rfl, HRA7.out⟩ ⟨_, rfl, HR7.out⟩).mono ?_
            rintro e w8 ⟨rfl, hb8⟩
            have H8 := Lib.hid (H7.out.below hb8)
            have HX8 := Lib.hid (HX7.out.below hb8 HX7.out.lt)
            have HRA8 := Lib.hid ((HRA7.out.keep hb8 (Nat.le_refl _)).more hb8.size)
            clear hb8 x0 x1 x2 x3 y0 y1 y2 y3
            obtain ⟨x0, x1, x2, x3, _⟩ := HX8.out
            go_wp2_with fail
            refine (RcRep_any (.agg #[VT (rcpOf nm sx).name, .int .i64 (rcpOf nm sx).len, .int .u32 ((rcpOf nm sx).print : Int), .slice A3 (rcpOf nm sx).ids.length c3]) (rcpOf nm sx) (by omega) w8 ⟨_, rfl, HRA8.out⟩).mono ?_
            rintro e w9 ⟨rfl, hb9⟩
            have H9 := Lib.hid (H8.out.below hb9)
            clear hb9 x0 x1 x2 x3
            have HBI := Lib.hid (HBIN.out w9 _ H9.out)
            rw [show repOf (rcpOf nm sx).ids = X from HRX.out]
            go_wp2_with fail
            refine HBI.out.mono ?_
            rintro e w10 ⟨b2, mb2, rfl, _, _, _, hb10⟩
            have H10 := Lib.hid (H9.out.below hb10)
            clear hb10
            go_wp2
            go_roundg (l.length - (k + 1))
            case measure => omega
            case rel => exact ⟨k + 1, P', _, by go_num, hkl, rfl, HOK', H10⟩
          · go_simp
            have hS1 : Below w4.heap.size w4 (w4.drew.alloc (.cells #[.string ⟨#[]⟩, .int .i64 0, .int .u32 0, .slice none 0 0] 36)) := hS0.alloc hS0.size _
            have hbx0 : Box4 w4.heap.size (.string ⟨#[]⟩) (.int .i64 0) (.int .u32 0) (.slice none 0 0) (w4.drew.alloc (.cells #[.string ⟨#[]⟩, .int .i64 0, .int .u32 0, .slice none 0 0] 36)) := Box4.mk' w4.drew (.string ⟨#[]⟩) (.int .i64 0) (.int .u32 0) (.slice none 0 0) 36
            refine hK _ _ hS1 ?_
            clear hK K
            try simp only [Act.put, List.getElem_toArray, List.getElem_cons_succ, List.getElem_cons_zero, List.setIfInBounds_toArray, List.set_cons_zero, List.set_cons_succ]
            refine carry_S 10 rfl (by kernel_rfl) (by decide) (by kernel_rfl) (fun K hK => ?_)
            go_simp
            refine (HOF.out _ hS1).mono ?_
            rintro e w6 ⟨v5, r5, rfl, hev5, ⟨sl5, rfl, hsl5⟩, hb5⟩
            obtain ⟨rfl, _⟩ := hev5.nil rfl
            obtain ⟨A5, c5, rfl⟩ : ∃ A c, sl5 = .slice A (rcpOf nm sx).ids.length c := by obtain ⟨A, c, h, _⟩ := hsl5; exact ⟨A, c, h⟩
            have hS2 : Below w4.heap.size w4 w6 := hS1.trans (hb5.mono hS1.size)
            have HBX := Lib.hid (hbx0.below hb5 hbx0.lt)
            have HRV := Lib.hid hsl5
            have hbxl : w4.heap.size ≤ w4.heap.size := Nat.le_refl _
            refine hK _ _ hS2 ?_
            clear hK K hsl5 hb5
            try simp only [Act.put, List.getElem_toArray, List.getElem_cons_succ, List.getElem_cons_zero, List.setIfInBounds_toArray, List.set_cons_zero, List.set_cons_succ]
            refine take_S 11 rfl (by kernel_rfl) (by kernel_rfl) hS2 (fun w' hS => by go_simp; rfl) ?_
            refine take_S 12 rfl (by kernel_rfl) (by kernel_rfl) hS2 (fun w' hS => by go_simp; rfl) ?_
            refine take_S 13 rfl (by kernel_rfl) (by kernel_rfl) hS2 (fun w' hS => by go_simp; rfl) ?_
            obtain ⟨b0, b1', b2', b3', bf⟩ := HBX.out
            have bf0 := bf 0
            have bf1 := bf 1
            have bf2 := bf 2
            have bf3 := bf 3
            have hS3 : Below w4.heap.size w4 ((((w6.setCell ⟨w4.heap.size, 0, none⟩ (VT (rcpOf nm sx).name)).setCell ⟨w4.heap.size, 1, none⟩ (.int .i64 (rcpOf nm sx).len)).setCell ⟨w4.heap.size, 2, none⟩ (.int .u32 ((rcpOf nm sx).print : Int))).setCell ⟨w4.heap.size, 3, none⟩ (.slice A5 (rcpOf nm sx).ids.length c5)) := below_set4 hS2 hbxl (VT (rcpOf nm sx).name) (.int .i64 (rcpOf nm sx).len) (.int .u32 ((rcpOf nm sx).print : Int)) (.slice A5 (rcpOf nm sx).ids.length c5)
            refine carry_S 15 rfl (by kernel_rfl) (by decide) (by kernel_rfl) (fun K hK => ?_)
            go_simp
            refine hK _ _ hS3 (forced_S (by kernel_rfl) ?_)
            clear hK K
            try simp only [Act.put, List.getElem_toArray, List.getElem_cons_succ, List.getElem_cons_zero, List.setIfInBounds_toArray, List.set_cons_zero, List.set_cons_succ]
            simp only [List.drop_succ_cons, List.drop_zero]
            have HBX7 := Lib.hid (HBX.out.set (VT (rcpOf nm sx).name) (.int .i64 (rcpOf nm sx).len) (.int .u32 ((rcpOf nm sx).print : Int)) (.slice A5 (rcpOf nm sx).ids.length c5))
            have hz7 := size_set4 w6 w4.heap.size (VT (rcpOf nm sx).name) (.int .i64 (rcpOf nm sx).len) (.int .u32 ((rcpOf nm sx).print : Int)) (.slice A5 (rcpOf nm sx).ids.length c5)
            have HR7 : Hid (RdI ((((w6.setCell ⟨w4.heap.size, 0, none⟩ (VT (rcpOf nm sx).name)).setCell ⟨w4.heap.size, 1, none⟩ (.int .i64 (rcpOf nm sx).len)).setCell ⟨w4.heap.size, 2, none⟩ (.int .u32 ((rcpOf nm sx).print : Int))).setCell ⟨w4.heap.size, 3, none⟩ (.slice A5 (rcpOf nm sx).ids.length c5)) ((((w6.setCell ⟨w4.heap.size, 0, none⟩ (VT (rcpOf nm sx).name)).setCell ⟨w4.heap.size, 1, none⟩ (.int .i64 (rcpOf nm sx).len)).setCell ⟨w4.heap.size, 2, none⟩ (.int .u32 ((rcpOf nm sx).print : Int))).setCell ⟨w4.heap.size, 3, none⟩ (.slice A5 (rcpOf nm sx).ids.length c5)).heap.size (.slice A5 (rcpOf nm sx).ids.length c5) (rcpOf nm sx).ids) := Lib.hid (by rw [hz7]; exact (HRV.out.keep (fun p h1 h2 => cell_set4 _ _ _ _ _ (by have hs : (w4.drew.alloc (.cells #[.string ⟨#[]⟩, .int .i64 0, .int .u32 0, .slice none 0 0] 36)).heap.size = w4.heap.size + 1 := (by have h9 : (w4.drew.alloc (.cells #[.string ⟨#[]⟩, .int .i64 0, .int .u32 0, .slice none 0 0] 36)).heap.size = w4.drew.heap.size + 1 := (by simp); exact h9); omega)) (Nat.le_refl _) (Nat.le_refl _)).rd.more (by omega))
            generalize ((((w6.setCell ⟨w4.heap.size, 0, none⟩ (VT (rcpOf nm sx).name)).setCell ⟨w4.heap.size, 1, none⟩ (.int .i64 (rcpOf nm sx).len)).setCell ⟨w4.heap.size, 2, none⟩ (.int .u32 ((rcpOf nm sx).print : Int))).setCell ⟨w4.heap.size, 3, none⟩ (.slice A5 (rcpOf nm sx).ids.length c5)) = w7 at *
            have H7 := Lib.hid (H4.out.below hS3)
            have HX7 := Lib.hid (HX4.out.below hS3 HX4.out.lt)
            have HRA7 := Lib.hid ((HRA4.out.keep hS3 (Nat.le_refl _)).more hS3.size)
            clear hS0 hS1 hS2 hS3 HBX HRV b0 b1' b2' b3' bf bf0 bf1 bf2 bf3 hz7 H4 HX4 HRA4 q1 q2
            obtain ⟨x0, x1, x2, x3, _⟩ := HX7.out
            obtain ⟨y0, y1, y2, y3, _⟩ := HBX7.out
            go_wp2_with fail
            refine (SameRecipe_same (.agg #[VT (rcpOf nm sx).name, .int .i64 (rcpOf nm sx).len, .int .u32 ((rcpOf nm sx).print : Int), .slice A3 (rcpOf nm sx).ids.length c3]) (.agg #[VT (rcpOf nm sx).name, .int .i64 (rcpOf nm sx).len, .int .u32 ((rcpOf nm sx).print : Int), .slice A5 (rcpOf nm sx).ids.length c5]) (rcpOf nm sx) (by omega) w7 ⟨_, rfl, HRA7.out⟩ ⟨_, rfl, HR7.out⟩).mono ?_
            rintro e w8 ⟨rfl, hb8⟩
            have H8 := Lib.hid (H7.out.below hb8)
            have HX8 := Lib.hid (HX7.out.below hb8 HX7.out.lt)
            have HRA8 := Lib.hid ((HRA7.out.keep hb8 (Nat.le_refl _)).more hb8.size)
            clear hb8 x0 x1 x2 x3 y0 y1 y2 y3
            obtain ⟨x0, x1, x2, x3, _⟩ := HX8.out
            go_wp2_with fail
            refine (RcRep_any (.agg #[VT (rcpOf nm sx).name, .int .i64 (rcpOf nm sx).len, .int .u32 ((rcpOf nm sx).print : Int), .slice A3 (rcpOf nm sx).ids.length c3]) (rcpOf nm sx) (by omega) w8 ⟨_, rfl, HRA8.out⟩).mono ?_
            rintro e w9 ⟨rfl, hb9⟩
            have H9 := Lib.hid (H8.out.below hb9)
            clear hb9 x0 x1 x2 x3
            have HBI := Lib.hid (HBIN.out w9 _ H9.out)
            rw [show repOf (rcpOf nm sx).ids = X from HRX.out]
            go_wp2_with fail
            refine HBI.out.mono ?_
            rintro e w10 ⟨b2, mb2, rfl, _, _, _, hb10⟩
            have H10 := Lib.hid (H9.out.below hb10)
            clear hb10
            go_wp2
            go_roundg (l.length - (k + 1))
            case measure => omega
            case rel => exact ⟨k + 1, P', _, by go_num, hkl, rfl, HOK', H10⟩
        · obtain ⟨ty, pv, rfl⟩ := hev2.some hc
          clear hev2 ht2 h2 hc HPO HPUT
          go_wp2
          go_roundg (l.length - (k + 1))
          case measure => omega
          case rel => exact ⟨k + 1, P', f2, by go_num, hkl, rfl, HOK', H2'⟩
      · have k1i : ((bs KD).toList == [112, 117, 116]) = false := by rw [ByteArray.toList_eq, bs_toList]; exact beq_eq_false_iff_ne.2 k1
        have k1j : ((bs KD).toList != [112, 117, 116]) = true := by rw [ByteArray.toList_eq, bs_toList]; exact bne_iff_ne.2 k1
        clear k1
        go_wp2
        go_roundg (l.length - (k + 1))
        case measure => omega
        case rel => exact ⟨k + 1, P, f, by go_num, hkl, rfl, HOK, H⟩
    · obtain rfl : k = l.length := by omega
      go_wp2
      go_ret
      exact ⟨rfl, H.out.bel⟩
theorem NodeRecipes_walk (a : Nat → Addr) (v : Value) (l : List ActN) (hl : l.length ≤ maxLen) (hz : ∀ x ∈ l, x.kind.length ≤ maxLen ∧ x.nm.length ≤ maxLen ∧ x.s.length ≤ maxLen) (w : World) (hv : ActNRd w w.heap.size v l) (h : SomeS [1, 2, 3, 4, 5, 6, 8, 9] a w) :
    Calls Tryd.prog 3 #[v] w fun e w' => e = .returned (.bool true) ∧ Below w.heap.size w w' := by
  rcases longNs_cases l 40 with h0 | h1
  · exact NodeRecipes_main a v l hl hz h0 w hv h
  · exact NodeRecipes_long a v l hl hz h1 w hv h
end Go.Proofs.YthddgclmnbaloaaDoor

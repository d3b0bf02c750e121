/- Nodes in memory: walk of Drop. Condition: the sentinels that are read lie as named (SomeS). -/
import Derived.Test.YtpanoplcamdnkaaGreatDoorNod2
import Derived.Test.YtpanoplcamdnkaaGreatDoorNdO
namespace Go.Proofs.YtpanoplcamdnkaaGreatDoor
open Go.RowKit Go.Lib Go.Maps Go.WideMaps

def DropNPost (a : Nat → Addr) (n fm bm : Nat) (F : FL) (B : BL) (nm : Bytes) (w : World) (e : Ending) (w' : World) : Prop :=
  ∃ r f', e = .returned r ∧ ES a r (dropN nm (plainNode F B)).2 ∧ Node n (dropN nm (plainNode F B)).1 f' w' ∧ FrS (nodeFoot n fm bm F B).S w w' ∧ (nodeFoot n fm bm F B).new f' w.heap.size
theorem dropAll_next {x : Idn} {r : IdL} {L L' : HldL} {c : Int} (h : dropB x L = (L', c)) : dropAll (x :: r) L = if c = 0 then dropAll r L' else (L', c) := by
  rw [dropAll, h]
theorem tidy_any {F : FL} {B B' : BL} {x : Idn} {L : HldL} (h : ofN (plainNode F B) x ≠ []) : tidyN (alMap FE.r F) x L (alMap BE.L B') = alPut lesser x L (alMap BE.L B') := by
  unfold tidyN
  rw [if_pos]
  obtain ⟨y, hy⟩ := List.exists_mem_of_ne_nil _ h
  unfold ofN plainNode at hy
  obtain ⟨q, hq, _⟩ := List.mem_map.1 hy
  exact List.any_eq_true.2 ⟨q, (List.mem_filter.1 hq).1, (List.mem_filter.1 hq).2⟩
theorem tidy_none {F : FL} {B B' : BL} {x : Idn} {L : HldL} (h : ofN (plainNode F B) x = []) : tidyN (alMap FE.r F) x L (alMap BE.L B') = alDel x (alMap BE.L B') := by
  unfold tidyN
  rw [if_neg]
  intro ha
  obtain ⟨q, hq, hq2⟩ := List.any_eq_true.1 ha
  unfold ofN plainNode at h
  rw [List.map_eq_nil_iff] at h
  have : q ∈ (alMap FE.r F).filter fun q => decide (repR q.2 = x) := List.mem_filter.2 ⟨hq, hq2⟩
  rw [h] at this
  cases this
set_option maxRecDepth 100000 in
set_option maxHeartbeats 1000000 in
theorem NdDrop_none (a : Nat → Addr) (n fm bm : Nat) (F : FL) (B : BL) (hP : NodeOk (plainNode F B)) (nm : Bytes) (hn : StrOk nm) (hgf : alGet F nm = none) (w : World) (h : ONode n fm bm F B w) (hs : SomeS [4, 10] a w) :
    Calls Tryz.prog 13 #[.pointer (some ⟨n, 0, none⟩), .string (bs nm)] w (DropNPost a n fm bm F B nm w) := by
  have LK := fun w' (h' : ONode n fm bm F B w') => h'.files.look strRd (h.keysF hP) Tryz.underlying102 (zeroFE w') hn
  have c0 := h.c0
  have hd : dropN nm (plainNode F B) = (plainNode F B, 5) := by unfold dropN; rw [show alGet (plainNode F B).files nm = none by show alGet (alMap FE.r F) nm = _; rw [alGet_map, hgf]; rfl]
  rw [hgf] at LK
  simp only [Option.map_none, Option.getD_none, Option.isSome_none] at LK
  have lk := LK w h
  have hb1 : Below w.heap.size w (w.alloc (.cells #[.string ByteArray.empty, .int .i64 0, .int .u32 0, .slice none 0 0] 65)) := (Below.refl _ w).alloc (Nat.le_refl _) _
  have s4 : (w.alloc (.cells #[.string ByteArray.empty, .int .i64 0, .int .u32 0, .slice none 0 0] 65)).cell? ⟨2, 0, none⟩ = some (sval a 4) := (hs.below hb1) 4 (by simp)
  unfold sval at s4
  have HFIN : Hid (∀ w', Below w.heap.size w w' → DropNPost a n fm bm F B nm w (.returned (sval a 4)) w') := Lib.hid (fun w' hb => ⟨_, _, rfl, by rw [hd]; exact ES.sent a 4 (by decide), by rw [hd]; exact (h.below hb).node, FrS.of_below hb, Foot.new_refl _ _⟩)
  have HB1 := Lib.hid hb1
  clear LK hgf h hP hn hs hd hb1
  go_enter Tryz.func13, Tryz.ntmps13
  go_wp2
  go_ret
  exact HFIN.out _ HB1.out
set_option maxRecDepth 100000 in
set_option maxHeartbeats 8000000 in
theorem NdDrop_some (a : Nat → Addr) (n fm bm : Nat) (F : FL) (B : BL) (hP : NodeOk (plainNode F B)) (nm : Bytes) (hn : StrOk nm) (fe : FE) (hgf : alGet F nm = some fe) (w : World) (h : ONode n fm bm F B w) (hs : SomeS [4, 10] a w) :
    Calls Tryz.prog 13 #[.pointer (some ⟨n, 0, none⟩), .string (bs nm)] w (DropNPost a n fm bm F B nm w) := by
  have LK := fun w' (h' : ONode n fm bm F B w') => h'.files.look strRd (h.keysF hP) Tryz.underlying102 (zeroFE w') hn
  have c0 := h.c0
  obtain ⟨hrd, hil, hgp⟩ := h.file hP hgf
  obtain ⟨s, hnm, hsz, hr, L, hgL, _⟩ := hP.file nm fe.r hgp
  obtain ⟨be, hgb, hbL⟩ : ∃ be, alGet B (repR fe.r) = some be ∧ be.L = L := by
    have : alGet (alMap BE.L B) (repR fe.r) = some L := hgL
    rw [alGet_map] at this
    cases hb : alGet B (repR fe.r) with
    | none => rw [hb] at this; cases this
    | some be => rw [hb] at this; injection this with this; exact ⟨be, rfl, this⟩
  subst hbL
  have hbin : binN (plainNode F B) (repR fe.r) = be.L := by unfold binN; rw [hgL]; rfl
  obtain ⟨hda, hst⟩ := hP.drops hgp
  rw [hbin] at hda hst
  have hok7 := (hP.theBin (repR fe.r)).1
  have hl7 := (hP.theBin (repR fe.r)).2.1
  rw [hbin] at hok7 hl7
  have hdn : dropN nm (plainNode F B) = (⟨alDel nm (alMap FE.r F), tidyN (alDel nm (alMap FE.r F)) (repR fe.r) (dropAll fe.r.ids be.L).1 (alMap BE.L B)⟩, 0) := by
    unfold dropN
    rw [hgp]
    simp only
    rw [hbin]; rfl
  have hxo : IdOk0 (repR fe.r) := (hP.bin _ _ hgL).1
  have HIX : Hid (∀ x ∈ fe.r.ids, IdOk x) := Lib.hid (fun x hx => by
    rw [show fe.r.ids = idsOf s by rw [hr]; rfl] at hx
    obtain ⟨p, hp, rfl⟩ := List.mem_map.1 hx
    exact (idOf_ok0 (pieces_max s p hp)).1)
  have LKB := fun w' (h' : ONode n fm bm F B w') => h'.bins.at idRd (h.keysB hP) Tryz.underlying103 (zeroBE w') hxo.1
  rw [hgb] at LKB
  simp only [Option.map_some, Option.getD_some] at LKB
  unfold beV at LKB
  rw [hgf] at LK
  simp only [Option.map_some, Option.getD_some, Option.isSome_some] at LK
  unfold feV at LK
  obtain ⟨SA, sc, hsl⟩ : ∃ A c, fe.sl = .slice A fe.r.ids.length c := by obtain ⟨A, c, h, _⟩ := hrd; exact ⟨A, c, h⟩
  rw [hsl] at LK hrd
  have lk := LK w h
  have HOB : Hid (∀ w', ONode n fm bm F B w' → OBin be.b be.mb be.L w') := Lib.hid (fun w' h' => h'.bin (_, be) (alGet_mem hgb))
  have hrep : repOf fe.r.ids = repR fe.r := rfl
  generalize repR fe.r = X at *
  have HREP := Lib.hid hrep
  have HLB := Lib.hid LKB
  have HN := Lib.hid h
  have HP := Lib.hid hP
  have HRD := Lib.hid hrd
  have HS := Lib.hid hs
  have HXO := Lib.hid hxo
  have HNM := Lib.hid hn
  have HDN := Lib.hid hdn
  have HDA := Lib.hid hda
  have HOK7 : Hid (BinOk 7500 be.L ∧ be.L.length ≤ 250) := Lib.hid ⟨hok7, hl7⟩
  clear LK LKB hgf h hP hn hs hrd hgp hgL hr hgb hbin hda hst hok7 hl7 hdn hxo hrep hnm hsz
  have hb1 : Below w.heap.size w (w.alloc (.cells #[VT fe.r.name, .int .i64 fe.r.len, .int .u32 (fe.r.print : Int), .slice SA fe.r.ids.length sc] 65)) := (Below.refl _ w).alloc (Nat.le_refl _) _
  have HX1 := Lib.hid (Box4.mk' w (VT fe.r.name) (.int .i64 fe.r.len) (.int .u32 (fe.r.print : Int)) (.slice SA fe.r.ids.length sc) 65)
  have HB1 := Lib.hid hb1
  have hz1 := hb1.size
  have HRP := Lib.hid (RcRep_any (.agg #[VT fe.r.name, .int .i64 fe.r.len, .int .u32 (fe.r.print : Int), .slice SA fe.r.ids.length sc]) fe.r (by omega) (w.alloc (.cells #[VT fe.r.name, .int .i64 fe.r.len, .int .u32 (fe.r.print : Int), .slice SA fe.r.ids.length sc] 65)) ⟨_, rfl, (HRD.out.keep hb1 (Nat.le_refl _)).more hz1⟩)
  rw [HREP.out] at HRP
  obtain ⟨e0, e1, e2, e3, _⟩ := HX1.out
  clear hb1
  go_enter Tryz.func13, Tryz.ntmps13
  go_wp2_with fail
  refine HRP.out.mono ?_
  rintro e w2 ⟨rfl, hb2⟩
  have HX2 := Lib.hid (HX1.out.below hb2 HX1.out.lt)
  have HB2 := Lib.hid (HB1.out.trans (hb2.mono hz1))
  have hb3 : Below w2.heap.size w2 (w2.alloc (.cells #[.int .u32 (X.1 : Int), .int .i64 X.2] 47)) := (Below.refl _ _).alloc (Nat.le_refl _) _
  have HX3 := Lib.hid (HX2.out.below hb3 HX2.out.lt)
  have HB3 := Lib.hid (HB2.out.trans (hb3.mono HB2.out.size))
  have HY3 := Lib.hid (Box2.mk' w2 (.int .u32 (X.1 : Int)) (.int .i64 X.2) 47)
  have HN3 := Lib.hid (HN.out.below HB3.out)
  have hx2 : w.heap.size < w2.heap.size := HX2.out.lt
  clear hb2 hb3 e0 e1 e2 e3 lk c0 HRP HX1 HB1 HX2 HB2
  go_wp2
  generalize w2.alloc (.cells #[.int .u32 (X.1 : Int), .int .i64 X.2] 47) = w3 at *
  have hS0 : Below w3.heap.size w3 w3.drew := (Below.refl _ _).drew
  refine region_S (fun w' => Below w3.heap.size w3 w') 7 (by kernel_rfl) (by kernel_rfl) ?_
  refine take_S 0 rfl (by kernel_rfl) (by kernel_rfl) hS0 (fun w' hS => by go_simp; rfl) ?_
  refine take_S 1 rfl (by kernel_rfl) (by kernel_rfl) hS0 (fun w' hS => by go_simp; rfl) ?_
  refine take_S 2 rfl (by kernel_rfl) (by kernel_rfl) hS0 (fun w' hS => by go_simp; rfl) ?_
  refine take_S 3 rfl (by kernel_rfl) (by kernel_rfl) hS0 (fun w' hS => by have A0 := (HN3.out.below hS).c1; go_simp; rfl) ?_
  refine take_S 4 rfl (by kernel_rfl) (by kernel_rfl) hS0 (fun w' hS => by have A0 := (HY3.out.below hS HY3.out.lt).c0; have A1 := (HY3.out.below hS HY3.out.lt).c1; go_simp; rfl) ?_
  refine take_S 5 rfl (by kernel_rfl) (by kernel_rfl) hS0 (fun w' hS => by have A0 := HLB.out w' (HN3.out.below hS); go_simp; rfl) ?_
  refine carry_S 6 rfl (by kernel_rfl) (by decide) (by kernel_rfl) (fun K hK => ?_)
  go_simp
  refine (BnCopy_any be.b be.mb be.L _ (HOB.out _ (HN3.out.below hS0))).mono ?_
  rintro e w4 ⟨b2, mb2, rfl, ho4, hb4, hmb4, hbw4⟩
  have hS1 : Below w3.heap.size w3 w4 := hS0.trans (hbw4.mono hS0.size)
  refine hK _ _ hS1 (forced_S (by kernel_rfl) ?_)
  clear hK K
  try simp only [Act.put, List.getElem_toArray, List.getElem_cons_succ, List.getElem_cons_zero, List.setIfInBounds_toArray, List.set_cons_zero, List.set_cons_succ]
  try simp only [Act.put, List.getElem_toArray, List.getElem_cons_succ, List.getElem_cons_zero, List.setIfInBounds_toArray, List.set_cons_zero, List.set_cons_succ]
  simp only [List.drop_succ_cons, List.drop_zero]
  have HX4 := Lib.hid (HX3.out.below hS1 HX3.out.lt)
  have HY4 := Lib.hid (HY3.out.below hS1 HY3.out.lt)
  have HB4 := Lib.hid (HB3.out.trans (hS1.mono HB3.out.size))
  have HO4 := Lib.hid ho4
  have hy3 : w2.heap.size < w3.heap.size := HY3.out.lt
  have hdz : w3.drew.heap.size = w3.heap.size := rfl
  rw [hdz] at hb4 hmb4
  have HNE : Hid (w.heap.size ≠ mb2 ∧ w2.heap.size ≠ mb2 ∧ w.heap.size ≤ b2 ∧ w.heap.size ≤ mb2) := Lib.hid ⟨by omega, by omega, by omega, by omega⟩
  have hz4 := HB4.out.size
  obtain ⟨e0, e1, e2, e3, _⟩ := HX4.out
  clear hS0 hS1 hbw4 ho4 hb4 hmb4 HX3 HY3 HB3 HN3 hdz
  go_wp2
  clear e0 e1 e2 e3
  go_loopg [36] fe.r.ids.length (fun gh v36 wr => ∃ (k : Nat) (Lk : HldL), v36 = .int .i64 k ∧ k ≤ fe.r.ids.length ∧ gh = fe.r.ids.length - k ∧ Hid (dropAll (fe.r.ids.drop k) Lk = dropAll fe.r.ids be.L) ∧ Hid (BinOk 7500 Lk ∧ Lk.length ≤ 250) ∧ Hid (OBin b2 mb2 Lk wr) ∧ Hid (w4.grownBy wr (some mb2)))
  case atStart => exact ⟨0, be.L, rfl, Nat.zero_le _, rfl, Lib.hid (by rw [List.drop_zero]), HOK7, HO4, Lib.hid ⟨rfl, rfl, rfl, Nat.le_refl _, fun _ _ _ => rfl⟩⟩
  case round =>
    obtain ⟨k, Lk, rfl, hk, hgm, HDK, HBK, HOK, HGB⟩ := hrel
    have HBr : Hid (Below w.heap.size w wr) := Lib.hid (gb_toBelow HB4.out HB4.out.size HNE.out.2.2.2 HGB.out)
    by_cases hkl : k < fe.r.ids.length
    · obtain ⟨A', c', hvv, _, hx⟩ := HRD.out.form
      obtain ⟨g, o, hA, hg, hcell⟩ := hx (by omega)
      injection hvv with hv1 _ hv3
      subst hv1
      subst hv3
      subst hA
      obtain ⟨x0, x1⟩ := hcell k hkl
      have d0 := (HBr.out.cell (p := ⟨g, o + k * 2, none⟩) hg).trans x0
      have d1 := (HBr.out.cell (p := ⟨g, o + k * 2 + 1, none⟩) hg).trans x1
      have b1 : (0 : Int) ≤ (k : Int) := by omega
      have b2' : (k : Int) < (fe.r.ids.length : Int) := by omega
      have hix := HIX.out fe.r.ids[k] (List.getElem_mem hkl)
      have hda := HDK.out
      rw [List.drop_eq_getElem_cons hkl] at hda
      have hlk := HBK.out.2
      generalize fe.r.ids[k] = y at *
      have hb5 : Below wr.heap.size wr (wr.alloc (.cells #[.int .u32 (y.1 : Int), .int .i64 y.2] 47)) := (Below.refl _ _).alloc (Nat.le_refl _) _
      have HDR := Lib.hid (BnDrop_any a b2 mb2 Lk 7500 (by decide) HBK.out.1 (by omega) y hix (wr.alloc (.cells #[.int .u32 (y.1 : Int), .int .i64 y.2] 47)) (HOK.out.below hb5) (HS.out.below (HBr.out.trans (hb5.mono HBr.out.size))))
      have hokd := binOk_drop HBK.out.1 y
      have hlnd := length_drop HBK.out.1.srt (x := y)
      unfold DropPost at HDR
      cases hdb : dropB y Lk with | mk L' c' =>
      rw [dropAll_next hdb] at hda
      rw [hdb] at HDR hokd hlnd
      simp only at HDR hokd hlnd
      have hc : c' = 0 := by
        by_cases hc : c' = 0
        · exact hc
        · rw [if_neg hc] at hda
          have := HDA.out
          rw [← hda] at this
          exact absurd this hc
      subst hc
      rw [if_pos rfl] at hda
      have HDK' := Lib.hid hda
      have HBK' : Hid (BinOk 7500 L' ∧ L'.length ≤ 250) := Lib.hid ⟨hokd, by omega⟩
      have HB5 := Lib.hid hb5
      clear hcell hx x0 x1 hix hda hdb hokd hlnd hb5 HDK
      go_wp2_with fail
      refine HDR.out.mono ?_
      rintro e w6 ⟨r6, rfl, hes, ho6, hg6⟩
      obtain ⟨rfl, _⟩ := hes.nil rfl
      have HO6 := Lib.hid ho6
      have HG6 := Lib.hid ((gb_below HGB.out HB5.out).trans hg6)
      clear hes ho6 hg6 d0 d1
      go_wp2
      go_roundg (fe.r.ids.length - (k + 1))
      case measure => omega
      case rel => exact ⟨k + 1, L', by go_num, hkl, rfl, HDK', HBK', HO6, HG6⟩
    · obtain rfl : k = fe.r.ids.length := by omega
      have hda := HDK.out
      rw [List.drop_length] at hda
      have hL' : (dropAll fe.r.ids be.L).1 = Lk := by rw [← hda]; rfl
      have hdn := HDN.out
      rw [hL'] at hdn
      have hnr := HN.out.below HBr.out
      have hsF := ONode.srtF HP.out
      have hsB := ONode.srtB HP.out
      have hkF := hnr.keysF HP.out
      have hkB := hnr.keysB HP.out
      have hfl : F.length ≤ 30 := by simpa [plainNode, alMap_length] using HP.out.flen
      have c0 := hnr.c0
      obtain ⟨y0r, y1r, _, _⟩ := gb_box2 HGB.out HNE.out.2.1 HY4.out
      obtain ⟨wa, h1, h2, h3, h4⟩ := AlMap.drop strRd hnr.files hkF Tryz.underlying102 nm HNM.out 0
      have hA : ONode n fm bm (alDel nm F) B wa := hnr.setF h4 h3 h2 (fun q hq => .inl (alDel_sub hq))
      have hfmw : fm < w.heap.size := HN.out.files.blt
      have hbmw : bm < w.heap.size := HN.out.bins.blt
      have hobA : OBin b2 mb2 Lk wa := HOK.out.grown h4 (by intro e; injection e with e; have := HNE.out.2.2.1; omega) (by intro e; injection e with e; have := HNE.out.2.2.2; omega)
      have hAd : ONode n fm bm (alDel nm F) B wa.drew := hA.below (Below.refl _ _).drew
      have hobd : OBin b2 mb2 Lk wa.drew := hobA.below (Below.refl _ _).drew
      obtain ⟨wb, k1, k2, k3, k4⟩ := AlMap.upd idRd hAd.bins hsB hkB Tryz.underlying103 (by have := HP.out.blenF; unfold maxLen; omega) X ⟨Lk, b2, mb2⟩ HXO.out
      unfold beV at k1
      have hnew : mb2 ∉ B.map (fun q => q.2.mb) := fun hm => by
        obtain ⟨q, hq, e⟩ := List.mem_map.1 hm
        have := (HN.out.bin q hq).map.lt
        have := HNE.out.2.2.2
        omega
      have hnd0 := HN.out.nd
      rw [List.nodup_cons, List.nodup_cons] at hnd0
      have hmb := HNE.out.2.2.2
      have hbb := HNE.out.2.2.1
      have hND : (fm :: bm :: (alPut lesser X ⟨Lk, b2, mb2⟩ B).map (fun q => q.2.mb)).Nodup := by
        rw [List.nodup_cons, List.nodup_cons]
        refine ⟨fun hm => ?_, fun hm => ?_, alPut_map_nodup (fun q : BE => q.mb) hnd0.2.2 hnew⟩
        · rcases List.mem_cons.1 hm with e | hm
          · exact hnd0.1 (List.mem_cons.2 (.inl e))
          · rcases alPut_map_mem (fun q : BE => q.mb) hm with e | e
            · simp only at e; omega
            · exact hnd0.1 (List.mem_cons_of_mem _ e)
        · rcases alPut_map_mem (fun q : BE => q.mb) hm with e | e
          · simp only at e; omega
          · exact hnd0.2.1 e
      have hB : ONode n fm bm (alDel nm F) (alPut lesser X ⟨Lk, b2, mb2⟩ B) wb := hAd.setB k4 k3 k2 (fun q hq => by
        rcases alPut_mem hq with rfl | hq
        · exact .inr (hobd.grown k4 (by intro e; injection e with e; omega) (by intro e; injection e with e; omega))
        · exact .inl hq) hND
      have HFR : Hid (FrS (nodeFoot n fm bm F B).S w wb) := Lib.hid (((FrS.of_below (S := (nodeFoot n fm bm F B).S) HBr.out).trans (FrS.of_gb (S := (nodeFoot n fm bm F B).S) h4 (.inl rfl)) (fun _ h => .inl h)).trans ((FrS.of_below (S := (nodeFoot n fm bm F B).S) ((Below.refl wa.heap.size wa).drew)).trans (FrS.of_gb (S := (nodeFoot n fm bm F B).S) k4 (.inr (.inl rfl))) (fun _ h => .inl h)) (fun _ h => .inl h))
      have HBN := Lib.hid hB
      have HDN' := Lib.hid hdn
      have c1 := hA.c1
      have y0 := h3 _ _ y0r
      have y1 := h3 _ _ y1r
      have HYB : Hid (wb.cell? ⟨w2.heap.size, 0, none⟩ = some (.int .u32 (X.1 : Int)) ∧ wb.cell? ⟨w2.heap.size, 1, none⟩ = some (.int .i64 X.2)) := Lib.hid ⟨k3 _ _ y0, k3 _ _ y1⟩
      have HOF := Lib.hid (NdOf_gen n fm bm (alDel nm F) (alPut lesser X ⟨Lk, b2, mb2⟩ B) (alSrt_del hsF nm) (fun p hp => hkF p (alDel_sub hp)) (Nat.le_trans (alDel_length F nm) hfl) (fun q hq => HP.out.ids (q.1, q.2.r) (List.mem_map_of_mem (f := fun p : Bytes × FE => (p.1, p.2.r)) (alDel_sub hq))) X wb hB)
      have HKB := Lib.hid (show ∀ p ∈ alPut lesser X ⟨Lk, b2, mb2⟩ B, IdOk0 p.1 from fun p hp => by
        rcases alPut_mem hp with rfl | hp
        · exact HXO.out
        · exact hkB p hp)
      have HNEW : Hid (∀ q ∈ alPut lesser X ⟨Lk, b2, mb2⟩ B, q ∈ B ∨ (w.heap.size ≤ q.2.b ∧ w.heap.size ≤ q.2.mb)) := Lib.hid (fun q hq => by
        rcases alPut_mem hq with rfl | hq
        · exact .inr ⟨hbb, hmb⟩
        · exact .inl hq)
      have HND := Lib.hid hND
      clear hda hL' hdn hnr hsF hsB hkF hkB hfl h2 h3 h4 hA hobA hAd hobd k2 k3 k4 hnew hnd0 hND hB hfmw hbmw hmb hbb y0r y1r
      go_wp2
      have hS0 : Stay wa wa.drew := Stay.refl _
      refine region_S (fun w' => Stay wa w') 6 (by kernel_rfl) (by kernel_rfl) ?_
      refine take_S 0 rfl (by kernel_rfl) (by kernel_rfl) hS0 (fun w' hS => by go_simp; rfl) ?_
      refine take_S 1 rfl (by kernel_rfl) (by kernel_rfl) hS0 (fun w' hS => by go_simp; rfl) ?_
      refine take_S 2 rfl (by kernel_rfl) (by kernel_rfl) hS0 (fun w' hS => by go_simp; rfl) ?_
      refine take_S 3 rfl (by kernel_rfl) (by kernel_rfl) hS0 (fun w' hS => by have A0 := hS _ _ c1; go_simp; rfl) ?_
      refine take_S 4 rfl (by kernel_rfl) (by kernel_rfl) hS0 (fun w' hS => by have A0 := hS _ _ y0; have A1 := hS _ _ y1; go_simp; rfl) ?_
      refine take_S 5 rfl (by kernel_rfl) (by kernel_rfl) hS0 (fun w' hS => by go_simp; rfl) (forced_S (by kernel_rfl) ?_)
      try simp only [Act.put, List.getElem_toArray, List.getElem_cons_succ, List.getElem_cons_zero, List.setIfInBounds_toArray, List.set_cons_zero, List.set_cons_succ]
      simp only [List.drop_succ_cons, List.drop_zero]
      obtain ⟨z0, z1⟩ := HYB.out
      clear hS0 y0 y1 c1
      go_wp2_with fail
      refine HOF.out.mono ?_
      rintro e wc ⟨vo, rfl, hoo, hbc⟩
      obtain ⟨Ao, co, rfl⟩ := own_formI hoo
      have HNC := Lib.hid (HBN.out.below hbc)
      have HFC := Lib.hid (HFR.out.thenB hbc)
      have y0 := (hbc.cell (p := ⟨w2.heap.size, 0, none⟩) (World.block_lt_of_cell? wb _ z0)).trans z0
      have y1 := (hbc.cell (p := ⟨w2.heap.size, 1, none⟩) (World.block_lt_of_cell? wb _ z1)).trans z1
      clear hoo hbc z0 z1
      by_cases hof : ofN (plainNode (alDel nm F) (alPut lesser X ⟨Lk, b2, mb2⟩ B)) X = []
      · have hl0 : ((ofN (plainNode (alDel nm F) (alPut lesser X ⟨Lk, b2, mb2⟩ B)) X).length : Int) = 0 := by rw [hof]; rfl
        have hncd := HNC.out.below (Below.refl wc.heap.size wc).drew
        obtain ⟨wd, m1, m2, m3, m4⟩ := AlMap.drop idRd hncd.bins HKB.out Tryz.underlying103 X HXO.out 0
        rw [alDel_put] at m2
        have hD : ONode n fm bm (alDel nm F) (alDel X B) wd := hncd.setB m4 m3 m2 (fun q hq => by
          have h1 : q ∈ alDel X (alPut lesser X ⟨Lk, b2, mb2⟩ B) := by rw [alDel_put]; exact hq
          exact .inl (alDel_sub h1)) (by
            have h0 := HN.out.nd
            refine h0.sublist (List.Sublist.cons_cons _ (List.Sublist.cons_cons _ ?_))
            exact List.Sublist.map _ List.filter_sublist)
        have HFIN : Hid (DropNPost a n fm bm F B nm w (.returned .nilIface) wd) := Lib.hid (by
          have ht := tidy_none (F := alDel nm F) (B := alPut lesser X ⟨Lk, b2, mb2⟩ B) (B' := B) (L := Lk) hof
          rw [alMap_del] at ht
          have hdn := HDN'.out
          rw [ht] at hdn
          refine ⟨.nilIface, nodeFoot n fm bm (alDel nm F) (alDel X B), rfl, by rw [hdn]; exact ES.none a, ?_, (HFC.out.thenB (Below.refl wc.heap.size wc).drew).trans (FrS.of_gb (S := (nodeFoot n fm bm F B).S) m4 (.inr (.inl rfl))) (fun _ h => .inl h), foot_drop (fun q hq => alDel_sub hq) (fun q hq => .inl (alDel_sub hq))⟩
          rw [hdn]
          have := hD.node
          unfold plainNode at this
          rw [alMap_del, alMap_del] at this
          exact this)
        have c1 := HNC.out.c1
        clear hof hncd m2 m3 m4 hD
        go_wp2
        have hS0 : Stay wc wc.drew := Stay.refl _
        refine region_S (fun w' => Stay wc w') 5 (by kernel_rfl) (by kernel_rfl) ?_
        refine take_S 0 rfl (by kernel_rfl) (by kernel_rfl) hS0 (fun w' hS => by go_simp; rfl) ?_
        refine take_S 1 rfl (by kernel_rfl) (by kernel_rfl) hS0 (fun w' hS => by go_simp; rfl) ?_
        refine take_S 2 rfl (by kernel_rfl) (by kernel_rfl) hS0 (fun w' hS => by go_simp; rfl) ?_
        refine take_S 3 rfl (by kernel_rfl) (by kernel_rfl) hS0 (fun w' hS => by have A0 := hS _ _ c1; go_simp; rfl) ?_
        refine take_S 4 rfl (by kernel_rfl) (by kernel_rfl) hS0 (fun w' hS => by have A0 := hS _ _ y0; have A1 := hS _ _ y1; go_simp; rfl) (forced_S (by kernel_rfl) ?_)
        try simp only [Act.put, List.getElem_toArray, List.getElem_cons_succ, List.getElem_cons_zero, List.setIfInBounds_toArray, List.set_cons_zero, List.set_cons_succ]
        simp only [List.drop_succ_cons, List.drop_zero]
        clear hS0
        go_wp2
        go_ret
        exact HFIN.out
      · have hl0 : ((ofN (plainNode (alDel nm F) (alPut lesser X ⟨Lk, b2, mb2⟩ B)) X).length : Int) ≠ 0 := by
          have := List.length_pos_iff.2 hof; omega
        have hl0' : (((ofN (plainNode (alDel nm F) (alPut lesser X ⟨Lk, b2, mb2⟩ B)) X).length : Int) == 0) = false := beq_eq_false_iff_ne.2 hl0
        have HFIN : Hid (DropNPost a n fm bm F B nm w (.returned .nilIface) wc) := Lib.hid (by
          have ht := tidy_any (F := alDel nm F) (B := alPut lesser X ⟨Lk, b2, mb2⟩ B) (B' := B) (L := Lk) hof
          rw [alMap_del] at ht
          have hdn := HDN'.out
          rw [ht] at hdn
          refine ⟨.nilIface, nodeFoot n fm bm (alDel nm F) (alPut lesser X ⟨Lk, b2, mb2⟩ B), rfl, by rw [hdn]; exact ES.none a, ?_, HFC.out, foot_drop (fun q hq => alDel_sub hq) HNEW.out⟩
          rw [hdn]
          have := HNC.out.node
          unfold plainNode at this
          rw [alMap_del, alMap_put] at this
          exact this)
        clear hof hl0
        go_wp2
        go_ret
        exact HFIN.out
theorem NdDrop_any (a : Nat → Addr) (n fm bm : Nat) (F : FL) (B : BL) (hP : NodeOk (plainNode F B)) (nm : Bytes) (hn : StrOk nm) (w : World) (h : ONode n fm bm F B w) (hs : SomeS [4, 10] a w) :
    Calls Tryz.prog 13 #[.pointer (some ⟨n, 0, none⟩), .string (bs nm)] w (DropNPost a n fm bm F B nm w) := by
  cases hgf : alGet F nm with
  | none => exact NdDrop_none a n fm bm F B hP nm hn hgf w h hs
  | some fe => exact NdDrop_some a n fm bm F B hP nm hn fe hgf w h hs
end Go.Proofs.YtpanoplcamdnkaaGreatDoor

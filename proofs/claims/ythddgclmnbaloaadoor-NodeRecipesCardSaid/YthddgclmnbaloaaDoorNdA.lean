/- Nodes in memory: walks of New, Bin, Size. No conditions but bounds. -/
import Derived.Test.YthddgclmnbaloaaDoorNdM
import Derived.Test.YthddgclmnbaloaaDoorBin1
namespace Go.Proofs.YthddgclmnbaloaaDoor
open Go.RowKit Go.Lib Go.Maps Go.WideMaps

/-- a node that stands on the blocks of f -/
def Node (n : Nat) (P : PNode) (f : Foot) (w : World) : Prop := Thing (NodeIs n P f) f w
theorem ONode.foot {n fm bm : Nat} {F : FL} {B : BL} {w : World} (h : ONode n fm bm F B w) : (nodeFoot n fm bm F B).lt w.heap.size := fun k hk => by
  rcases hk with hk | hk | ⟨q, hq, rfl⟩ | ⟨q, hq, hk, hne⟩
  · exact h.lt k hk
  · rw [hk]; exact h.nlt
  · exact h.ltB q hq
  · obtain ⟨A, c, hv, _, _, hx⟩ := h.rd q hq
    obtain ⟨g, o, hA, hg, _⟩ := hx (List.length_pos_iff.2 hne)
    rw [hv, hA] at hk
    injection hk with hk
    rw [← hk]; exact hg
theorem ONode.node {n fm bm : Nat} {F : FL} {B : BL} {w : World} (h : ONode n fm bm F B w) : Node n (plainNode F B) (nodeFoot n fm bm F B) w :=
  ⟨h.foot, fun _ hz hk => ⟨fm, bm, F, B, h.keepH hz (fun k _ hm => hk k hm), rfl, rfl⟩⟩
theorem Node.at {n : Nat} {P : PNode} {f : Foot} {w : World} (h : Node n P f w) : ∃ fm bm F B, ONode n fm bm F B w ∧ plainNode F B = P ∧ nodeFoot n fm bm F B = f := Thing.now h
theorem ONode.keysF {n fm bm : Nat} {F : FL} {B : BL} {w : World} (_ : ONode n fm bm F B w) (hP : NodeOk (plainNode F B)) : ∀ p ∈ F, StrOk p.1 := fun p hp => by
  have hm : (p.1, p.2.r) ∈ alMap FE.r F := List.mem_map_of_mem (f := fun p : Bytes × FE => (p.1, p.2.r)) hp
  obtain ⟨s, h1, _⟩ := hP.file p.1 p.2.r (alGet_of_mem strEmb hP.fsrt hm)
  have := isName_le h1
  unfold StrOk maxLen; omega
theorem ONode.keysB {n fm bm : Nat} {F : FL} {B : BL} {w : World} (_ : ONode n fm bm F B w) (hP : NodeOk (plainNode F B)) : ∀ p ∈ B, IdOk0 p.1 := fun p hp => by
  have hm : (p.1, p.2.L) ∈ alMap BE.L B := List.mem_map_of_mem (f := fun p : Idn × BE => (p.1, p.2.L)) hp
  exact (hP.bin p.1 p.2.L (alGet_of_mem idEmb hP.bsrt hm)).1
theorem ONode.srtF {F : FL} {B : BL} (hP : NodeOk (plainNode F B)) : AlSrt bytesBefore F := alMap_srt.1 hP.fsrt
theorem ONode.srtB {F : FL} {B : BL} (hP : NodeOk (plainNode F B)) : AlSrt lesser B := alMap_srt.1 hP.bsrt
set_option maxRecDepth 100000 in
theorem NdNew_any (w : World) : Calls Tryd.prog 7 #[] w fun e w' => ∃ n f, e = .returned (.pointer (some ⟨n, 0, none⟩)) ∧ Node n ⟨[], []⟩ f w' ∧ f.ge w.heap.size ∧ Below w.heap.size w w' := by
  have hmm := @run_makeMap Tryd.prog
  go_enter Tryd.func7, Tryd.ntmps7
  go_wp2
  go_ret
  have h1 : AlMap Tryd.prog 9 strLit feV w.heap.size ([] : FL) (w.alloc (.map #[] 0)) := AlMap.made w feV
  have h2 : AlMap Tryd.prog 44 idLit beV (w.alloc (.map #[] 0)).heap.size ([] : BL) ((w.alloc (.map #[] 0)).alloc (.map #[] 0)) := AlMap.made _ beV
  have hb1 : Below (w.alloc (.map #[] 0)).heap.size (w.alloc (.map #[] 0)) ((w.alloc (.map #[] 0)).alloc (.map #[] 0)) := (Below.refl _ _).alloc (Nat.le_refl _) _
  have h1' := h1.below hb1
  have hs1 : (w.alloc (.map #[] 0)).heap.size = w.heap.size + 1 := by simp
  have hs2 : ((w.alloc (.map #[] 0)).alloc (.map #[] 0)).heap.size = w.heap.size + 2 := by simp
  rw [hs1] at h2
  have hn := heap_alloc_new ((w.alloc (.map #[] 0)).alloc (.map #[] 0)) (.cells #[.map (some w.heap.size), .map (some (w.heap.size + 1))] 74)
  rw [hs2] at hn
  have hb2 : Below ((w.alloc (.map #[] 0)).alloc (.map #[] 0)).heap.size ((w.alloc (.map #[] 0)).alloc (.map #[] 0)) (((w.alloc (.map #[] 0)).alloc (.map #[] 0)).alloc (.cells #[.map (some w.heap.size), .map (some (w.heap.size + 1))] 74)) := (Below.refl _ _).alloc (Nat.le_refl _) _
  have ho : ONode (w.heap.size + 2) w.heap.size (w.heap.size + 1) [] [] (((w.alloc (.map #[] 0)).alloc (.map #[] 0)).alloc (.cells #[.map (some w.heap.size), .map (some (w.heap.size + 1))] 74)) :=
    ⟨hn, h1'.below hb2, h2.below hb2, fun q hq => absurd hq List.not_mem_nil, fun q hq => absurd hq List.not_mem_nil, by simp⟩
  refine ⟨w.heap.size + 2, _, rfl, ho.node, fun k hk => ?_, (((Below.refl _ _).alloc (Nat.le_refl _) _).alloc (by simp) _).alloc (by simp; omega) _⟩
  rcases hk with (rfl | rfl | ⟨q, hq, _⟩) | rfl | ⟨q, hq, _⟩ | ⟨q, hq, _⟩
  all_goals first | omega | exact absurd hq List.not_mem_nil
/-- a copy of a rep's bin, or none -/
def BinPost (P : PNode) (x : Idn) (w : World) (e : Ending) (w' : World) : Prop := match alGet P.bins x with
  | none => e = .returned (.pointer none) ∧ Below w.heap.size w w'
  | some L => ∃ b2 mb2, e = .returned (.pointer (some ⟨b2, 0, none⟩)) ∧ OBin b2 mb2 L w' ∧ w.heap.size ≤ b2 ∧ w.heap.size ≤ mb2 ∧ Below w.heap.size w w'
set_option maxRecDepth 100000 in
set_option maxHeartbeats 1000000 in
theorem NdBin_any (n fm bm : Nat) (F : FL) (B : BL) (hP : NodeOk (plainNode F B)) (x : Idn) (hx : IdOk x) (w : World) (h : ONode n fm bm F B w) :
    Calls Tryd.prog 12 #[.pointer (some ⟨n, 0, none⟩), idV x] w (BinPost (plainNode F B) x w) := by
  have hb0 : Below w.heap.size w (w.alloc (.cells #[.int .u32 (x.1 : Int), .int .i64 x.2] 44)) := (Below.refl _ w).alloc (Nat.le_refl _) _
  have HB0 := Lib.hid hb0
  have HN := Lib.hid (h.below hb0)
  have HX := Lib.hid (Box2.mk' w (.int .u32 (x.1 : Int)) (.int .i64 x.2) 44)
  have LK := Lib.hid (fun w' (h' : ONode n fm bm F B w') => h'.bins.at idRd (h.keysB hP) Tryd.underlying72 (zeroBE w') hx)
  have hg : alGet (plainNode F B).bins x = (alGet B x).map BE.L := alGet_map _ _ _
  unfold BinPost
  rw [hg]
  cases hgb : alGet B x with
  | none =>
    rw [hgb] at LK
    clear hb0 hg hgb h hP hx
    simp only [Option.map_none, Option.getD_none] at LK ⊢
    go_enter Tryd.func12, Tryd.ntmps12
    go_wp2_with fail
    generalize w.alloc (.cells #[.int .u32 (x.1 : Int), .int .i64 x.2] 44) = w1 at *
    go_wp2
    have hS0 : Below w1.heap.size w1 w1.drew := (Below.refl _ _).drew
    refine region_S (fun w' => Below w1.heap.size w1 w') 6 (by kernel_rfl) (by kernel_rfl) ?_
    refine take_S 0 rfl (by kernel_rfl) (by kernel_rfl) hS0 (fun w' hS => by go_simp; rfl) ?_
    refine take_S 1 rfl (by kernel_rfl) (by kernel_rfl) hS0 (fun w' hS => by go_simp; rfl) ?_
    refine take_S 2 rfl (by kernel_rfl) (by kernel_rfl) hS0 (fun w' hS => by go_simp; rfl) ?_
    refine take_S 3 rfl (by kernel_rfl) (by kernel_rfl) hS0 (fun w' hS => by have A0 := (HN.out.below hS).c1; go_simp; rfl) ?_
    refine take_S 4 rfl (by kernel_rfl) (by kernel_rfl) hS0 (fun w' hS => by have A0 := (HX.out.below hS HX.out.lt).c0; have A1 := (HX.out.below hS HX.out.lt).c1; go_simp; rfl) ?_
    refine take_S 5 rfl (by kernel_rfl) (by kernel_rfl) hS0 (fun w' hS => by have A0 := LK.out w' (HN.out.below hS); go_simp; rfl) (forced_S (by kernel_rfl) ?_)
    try simp only [Act.put, List.getElem_toArray, List.getElem_cons_succ, List.getElem_cons_zero, List.setIfInBounds_toArray, List.set_cons_zero, List.set_cons_succ]
    simp only [List.drop_succ_cons, List.drop_zero]
    have HB1 := Lib.hid (HB0.out.trans (hS0.mono HB0.out.size))
    clear hS0
    go_wp2
    go_ret
    exact ⟨rfl, HB1.out⟩
  | some be =>
    rw [hgb] at LK
    simp only [Option.map_some, Option.getD_some] at LK ⊢
    unfold beV at LK
    have HO : Hid (∀ w', ONode n fm bm F B w' → OBin be.b be.mb be.L w') := Lib.hid (fun w' h' => h'.bin (x, be) (alGet_mem hgb))
    clear hb0 hg hgb h hP hx
    go_enter Tryd.func12, Tryd.ntmps12
    go_wp2_with fail
    generalize w.alloc (.cells #[.int .u32 (x.1 : Int), .int .i64 x.2] 44) = w1 at *
    go_wp2
    have hS0 : Below w1.heap.size w1 w1.drew := (Below.refl _ _).drew
    refine region_S (fun w' => Below w1.heap.size w1 w') 6 (by kernel_rfl) (by kernel_rfl) ?_
    refine take_S 0 rfl (by kernel_rfl) (by kernel_rfl) hS0 (fun w' hS => by go_simp; rfl) ?_
    refine take_S 1 rfl (by kernel_rfl) (by kernel_rfl) hS0 (fun w' hS => by go_simp; rfl) ?_
    refine take_S 2 rfl (by kernel_rfl) (by kernel_rfl) hS0 (fun w' hS => by go_simp; rfl) ?_
    refine take_S 3 rfl (by kernel_rfl) (by kernel_rfl) hS0 (fun w' hS => by have A0 := (HN.out.below hS).c1; go_simp; rfl) ?_
    refine take_S 4 rfl (by kernel_rfl) (by kernel_rfl) hS0 (fun w' hS => by have A0 := (HX.out.below hS HX.out.lt).c0; have A1 := (HX.out.below hS HX.out.lt).c1; go_simp; rfl) ?_
    refine take_S 5 rfl (by kernel_rfl) (by kernel_rfl) hS0 (fun w' hS => by have A0 := LK.out w' (HN.out.below hS); go_simp; rfl) (forced_S (by kernel_rfl) ?_)
    try simp only [Act.put, List.getElem_toArray, List.getElem_cons_succ, List.getElem_cons_zero, List.setIfInBounds_toArray, List.set_cons_zero, List.set_cons_succ]
    simp only [List.drop_succ_cons, List.drop_zero]
    have HN1 := Lib.hid (HN.out.below hS0)
    have HB1 := Lib.hid (HB0.out.trans (hS0.mono HB0.out.size))
    clear hS0
    go_wp2_with fail
    refine (BnCopy_any be.b be.mb be.L _ (HO.out _ HN1.out)).mono ?_
    rintro e w3 ⟨b2, mb2, rfl, ho, h1, h2, hb3⟩
    have hz := HB1.out.size
    have HB3 := Lib.hid (HB1.out.trans (hb3.mono hz))
    have HO3 := Lib.hid ho
    clear ho hb3
    go_wp2
    go_ret
    exact ⟨b2, mb2, rfl, HO3.out, Nat.le_trans hz h1, Nat.le_trans hz h2, HB3.out⟩
/-! ### the size -/
def sumA (left : Lit → Bool) (B : BL) : Int := ((B.filter fun q => !left (idLit q.1)).map fun q => sizeB q.2.L).sum
theorem sumA_cons (left : Lit → Bool) (y : Idn × BE) (r : BL) : sumA left (y :: r) = (if left (idLit y.1) = true then 0 else sizeB y.2.L) + sumA left r := by
  unfold sumA
  rw [List.filter_cons]
  cases left (idLit y.1) <;> simp
theorem sumA_start {B : BL} (hB : ∀ y ∈ B, IdOk0 y.1) : sumA (Maps.has (alD idLit beV B)) B = 0 := by
  have : (B.filter fun q => !Maps.has (alD idLit beV B) (idLit q.1)) = [] := by
    rw [List.filter_eq_nil_iff]
    intro q hq
    rw [has_alD idEmb beV hB (hB q hq).1]
    cases hg : alGet B q.1 with
    | some _ => simp
    | none => exact absurd rfl (alGet_none.1 hg q hq)
  unfold sumA
  rw [this]; rfl
theorem sumA_step {left : Lit → Bool} {o : Idn × BE} (ho : IdOk0 o.1) (hl : left (idLit o.1) = true) : ∀ {M : BL}, AlSrt lesser M → (∀ y ∈ M, IdOk0 y.1) →
    sumA (fun z => left z && !z.sameKey (idLit o.1)) M = sumA left M + ((alGet M o.1).map fun q => sizeB q.L).getD 0
  | [], _, _ => by simp [sumA, alGet]
  | y :: r, hs, hM => by
    obtain ⟨h1, h2⟩ := alSrt_cons.1 hs
    have ih := sumA_step ho hl h2 (fun z hz => hM z (List.mem_cons_of_mem _ hz))
    rw [sumA_cons, sumA_cons, ih, idLit_same (hM y List.mem_cons_self).1 ho.1, alGet_cons]
    by_cases e : y.1 = o.1
    · have hn : alGet r o.1 = none := alGet_none.2 fun z hz e2 => lesser_ne (h1 z hz) (e.trans e2.symm)
      rw [if_pos e, hn, e, hl]; simp; omega
    · rw [if_neg e]
      simp only [e, decide_false, Bool.not_false, Bool.and_true]
      omega
theorem sumA_end {left : Lit → Bool} {B : BL} (hl : ∀ kl, left kl = false) (F : FL) : sumA left B = sizeN (plainNode F B) := by
  unfold sumA sizeN plainNode alMap
  rw [List.filter_eq_self.2 (fun h _ => by simp [hl]), List.map_map]; rfl
theorem sumA_bound {left : Lit → Bool} {B : BL} (h : ∀ q ∈ B, 0 ≤ sizeB q.2.L ∧ sizeB q.2.L ≤ 16000) : 0 ≤ sumA left B ∧ sumA left B ≤ 16000 * B.length := by
  induction B with
  | nil => simp [sumA]
  | cons y r ih =>
    have h1 := ih (fun x hx => h x (List.mem_cons_of_mem _ hx))
    have h2 := h y List.mem_cons_self
    rw [sumA_cons, List.length_cons]
    split <;> omega
theorem NodeOk.binOf {F : FL} {B : BL} (hP : NodeOk (plainNode F B)) {q : Idn × BE} (hq : q ∈ B) : BinOk 7500 q.2.L ∧ q.2.L.length ≤ 250 ∧ 0 ≤ sizeB q.2.L ∧ sizeB q.2.L ≤ 16000 := by
  have hm : (q.1, q.2.L) ∈ alMap BE.L B := List.mem_map_of_mem (f := fun p : Idn × BE => (p.1, p.2.L)) hq
  have hg := alGet_of_mem idEmb hP.bsrt hm
  have h1 := hP.bin7 hg
  have h2 := (hP.bin _ _ hg).2.2.1
  have h3 := h1.size
  simp only at h1 h2 h3
  exact ⟨h1, h2, by omega⟩
theorem NodeOk.blenF {F : FL} {B : BL} (hP : NodeOk (plainNode F B)) : B.length ≤ 30 := by
  have h1 := hP.blen
  have h2 := hP.flen
  simp only [plainNode, alMap_length] at h1 h2
  omega
set_option maxRecDepth 100000 in
set_option maxHeartbeats 1000000 in
theorem NdSize_any (n fm bm : Nat) (F : FL) (B : BL) (hP : NodeOk (plainNode F B)) (w : World) (h : ONode n fm bm F B w) :
    Calls Tryd.prog 32 #[.pointer (some ⟨n, 0, none⟩)] w fun e w' => e = .returned (.int .i64 (sizeN (plainNode F B))) ∧ Below w.heap.size w w' := by
  have HN := Lib.hid h
  have HP := Lib.hid hP
  have HKB := Lib.hid (h.keysB hP)
  have c1 := h.c1
  have hnl := h.nlt
  have hml := h.bins.blt
  have hbl := hP.blenF
  clear h hP
  go_enter Tryd.func32, Tryd.ntmps32
  go_wp2_with (first | (at_range; refine wpList_range_own _ rfl _ 72 rfl 44 41 lawI Tryd.underlying72 rawE bm B.length (alD idLit beV B) rfl HN.out.bins ?_; intro w0 hrg0 hg0 hs0) | fail)
  go_frame
  have HRG0 := Lib.hid hrg0
  have HG0 := Lib.hid hg0
  have HS0 := Lib.hid hs0
  clear hrg0 hg0 hs0
  go_loopg [3] (Maps.size (alD idLit beV B)) (fun gh v3 wr => ∃ (left : Lit → Bool) (z : Int), wr.ranges Tryd.prog 44 rawE bm w.heap.size B.length (alD idLit beV B) left gh ∧ v3 = .int .i64 z ∧ Hid (z = sumA left B) ∧ 0 ≤ z ∧ z ≤ 16000 * (B.length : Int) ∧ Below w.heap.size w wr)
  case atStart => exact ⟨_, 0, HRG0.out, rfl, Lib.hid (sumA_start HKB.out).symm, by omega, by omega, (Below.refl _ _).grown HG0.out (Nat.le_refl _) (fun j hj => by cases hj)⟩
  case round =>
    obtain ⟨left, z, hrg, rfl, hz, hz0, hz1, hB⟩ := hrel
    go_wp2_with (first | (at_next; refine wpList_next_ranges _ rfl _ rfl 44 lawI rawE idV id idRd.mk_inv rawE_inv bm w.heap.size B.length (alD idLit beV B) left _ rfl hrg ?_ ?_) | fail)
    · intro _ hl0
      have HZ : Hid (z = sizeN (plainNode F B)) := Lib.hid (hz.out.trans (sumA_end hl0 F))
      clear hl0
      go_wp2
      go_ret
      exact ⟨by rw [HZ.out]; rfl, hB⟩
    · intro x1 x2 c kl yd yp w2 cnt2 hkey hlk hv hat hrg2 hlt hg2 hs2 hen
      obtain ⟨rfl, hx, be, hm, rfl⟩ := al_came idRd (x := (x1, x2)) HKB.out hkey hv hat
      have hq := HP.out.binOf hm
      simp only at hq
      have hok0 := HKB.out _ hm
      have hst := sumA_step (o := ((x1, x2), be)) hok0 hlk (ONode.srtB HP.out) HKB.out
      rw [alGet_of_mem idEmb (ONode.srtB HP.out) hm, ← hz.out] at hst
      simp only [Option.map_some, Option.getD_some] at hst
      have HST := Lib.hid hst
      have hbd := sumA_bound (left := fun z => left z && !z.sameKey (idLit (x1, x2))) (B := B) (fun q hq => ⟨(HP.out.binOf hq).2.2.1, (HP.out.binOf hq).2.2.2⟩)
      rw [hst] at hbd
      have hb2 : Below w.heap.size w w2 := hB.grown hg2 hB.size (fun j hj => by cases hj; exact Nat.le_refl _)
      have HB2 := Lib.hid hb2
      have HRG2 := Lib.hid hrg2
      have HSZ := Lib.hid (BnSize_any be.b be.mb be.L 7500 hq.1 (by omega) w2 ((HN.out.below hb2).bin _ hm))
      have hs1 := hq.2.2
      have hsz2 := hb2.size
      clear hkey hlk hv hat hrg2 hg2 hs2 hst hz hB hb2 hx hm hrg hq hok0
      unfold beV at *
      go_wp2_with fail
      refine HSZ.out.mono ?_
      rintro e w3 ⟨rfl, hb3⟩
      have HB3 := Lib.hid (HB2.out.trans (hb3.mono hsz2))
      have HRG3 := Lib.hid (HRG2.out.kept (gb_of_below (r := none) hb3) (by simp) (by simp))
      clear hb3
      go_wp2
      go_roundg cnt2
      case measure => exact hlt
      case rel => exact ⟨_, z + sizeB be.L, HRG3.out, rfl, Lib.hid HST.out.symm, hbd.1, hbd.2, HB3.out⟩
end Go.Proofs.YthddgclmnbaloaaDoor

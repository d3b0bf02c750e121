/- NdO, NdD, NdS, NdR in one text. Conditions: as each part says. -/
import Derived.Test.YtpanoplcamdnkaaGreatDoorNdB
import Derived.Test.YtpanoplcamdnkaaGreatDoorIterC
import Derived.Test.YtpanoplcamdnkaaGreatDoorHlds
import Derived.Lib.OwnBridge
import Derived.Test.YtpanoplcamdnkaaGreatDoorNod2
import Derived.Test.YtpanoplcamdnkaaGreatDoorNod1
/- Nodes in memory: walks of Names, of. No conditions but bounds. -/
namespace Go.Proofs.YtpanoplcamdnkaaGreatDoor
open Go.RowKit Go.Lib Go.Maps Go.WideMaps Go.Sort Go.Shelf

theorem before_lessB : ∀ (a b : Bytes), bytesBefore a b = Op.bytesLess a b
  | [], [] => rfl
  | [], _ :: _ => rfl
  | _ :: _, [] => rfl
  | a :: r, b :: s => by
    show (decide (a < b) || (a == b && bytesBefore r s)) = (decide (a < b) || (a == b && Op.bytesLess r s))
    rw [before_lessB r s]
theorem before_ltB (a b : Bytes) : bytesBefore a b = decide (a < b) := (before_lessB a b).trans (bytesLess_eq a b)
/-- names sorted: a permutation of names that rise, sorted, is these -/
theorem sort_names {K ss : List Bytes} (hs : K.Pairwise fun a b => bytesBefore a b = true) (h : ss.Perm K) : ss.mergeSort (fun x y => decide (x ≤ y)) = K := by
  refine (mergeSort_of_perm h).trans (List.mergeSort_of_pairwise ?_)
  refine List.Pairwise.imp (fun {a b} hab => ?_) hs
  rw [before_ltB] at hab
  exact decide_eq_true (List.le_of_lt (of_decide_eq_true hab))
theorem encStr_VT : (encStr : Bytes → Value) = VT := rfl
def namesN (P : PNode) : List Bytes := P.files.map (·.1)
def ofN (P : PNode) (x : Idn) : List Bytes := (P.files.filter fun q => decide (repR q.2 = x)).map (·.1)
theorem NodeW.names_srtW {P : PNode} (h : NodeW P) : (namesN P).Pairwise fun a b => bytesBefore a b = true := by
  unfold namesN
  rw [List.pairwise_map]
  exact h.fsrt
theorem strKeys_alD (F : FL) : strKeys (alD strLit feV F) = namesN (plainNode F []) := by
  unfold namesN plainNode alMap strKeys alD
  simp only [List.map_map]
  rfl
set_option maxHeartbeats 1000000 in
theorem NdNames_any (n fm bm : Nat) (F : FL) (B : BL) (hP : NodeW (plainNode F B)) (w : World) (h : ONode n fm bm F B w) :
    Calls Tryz.prog 17 #[.pointer (some ⟨n, 0, none⟩)] w fun e w' => ∃ v, e = .returned v ∧ w'.ownsRow w.heap.size 9 1 v (namesN (plainNode F B)).length ((namesN (plainNode F B)).map VT) ∧ Below w.heap.size w w' := by
  refine (callsIn_wide (n := 6)).1 ?_
  have hfK : Fence.wide.fn 62 := trivial
  have hfS : Fence.wide.fn 61 := trivial
  have c0 := h.c0
  have hmap := h.files
  have hfl := hP.flen
  have hfl' : F.length ≤ 30 := by simpa [plainNode, alMap_length] using hfl
  have hsz : Maps.size (alD strLit feV F) = F.length := size_alD _ _ _
  have h1 : Maps.size (alD strLit feV F) ≤ maxLen := by rw [hsz]; unfold maxLen; omega
  have h2 : Maps.size (alD strLit feV F) * 16 ≤ 140737488355328 := by rw [hsz]; omega
  have HNS := Lib.hid hP.names_srtW
  have hkk : strKeys (alD strLit feV F) = namesN (plainNode F B) := strKeys_alD F
  unfold AlMap at hmap
  have HKK := Lib.hid hkk
  clear h hP hkk hfl hfl' hsz
  refine callsIn_of_wp Tryz.func17 rfl trivial ?_ rfl
  simp only [Tryz.ntmps17, List.size_toArray, List.length_cons, List.length_nil, Nat.reduceAdd, Nat.reduceSub, Array.replicate_succ, Array.replicate_zero, List.push_toArray, List.append_toArray, List.nil_append, List.cons_append]
  gi_wp2_with (first
    | (gi_at_call 62; refine (Tryz.maps_Keys_62 _ _).mono ?_; rintro e w' ⟨rfl, rfl⟩)
    | (gi_at_call 61; refine (Tryz.slices_Sorted_keys_61_62 fm F.length (alD strLit feV F) rawE w hmap h1 h2).mono ?_; rintro e w' ⟨v, ss, rfl, hS, hrow, hnil, hb⟩))
  go_ret
  rw [HKK.out] at hS
  rw [sort_names HNS.out hS, encStr_VT, hS.length_eq] at hrow
  exact ⟨v, rfl, ownsRow_base_a hrow (by simp), ((Below.refl _ w).alloc (Nat.le_refl _) _).trans (hb.mono (by simp))⟩
/-! ### of a rep -/
theorem SSort_any (base : Nat) (v : Value) (K ss : List Bytes) (hs : K.Pairwise fun a b => bytesBefore a b = true) (hp : ss.Perm K) (hl : ss.length ≤ 1000000) (w0 w : World) (hB : Below base w0 w) (hbase : base ≤ w.heap.size) (ho : w.ownsRow base 9 1 v ss.length (ss.map VT)) :
    Calls Tryz.prog 110 #[v] w fun e w' => e = .returned (.tuple #[]) ∧ w'.ownsRow base 9 1 v K.length (K.map VT) ∧ Below base w0 w' := by
  have hlen : ss.length = K.length := hp.length_eq
  by_cases hv : v = .slice none 0 0
  · subst hv
    have h0 : ss.length = 0 := by
      rcases ho.2 with ⟨_, h⟩ | ⟨g, cap, cur, e, _⟩
      · exact h
      · cases e
    have hk : K = [] := List.length_eq_zero_iff.1 (by omega)
    subst hk
    exact (Tryz.slices_Sort_string_none none 0 w).mono fun e w' ⟨he, hw⟩ => ⟨he, by rw [hw]; exact World.ownsRow_nil _ _ _ _, by rw [hw]; exact hB⟩
  · obtain ⟨g, cap, rfl, hbg, hgl, hnc, hcm, hz, hH⟩ := holds_of_ownsRow (enc := encStr) ho hv
    refine (Tryz.slices_Sort_string g 0 cap ss w hH hgl (by omega)).mono ?_
    rintro e w' ⟨rfl, q, os, rfl⟩
    rw [sort_names hs hp]
    have h1 := ownsRow_putRow (enc := encStr) (q := q) (k := ss.length) (ys := K) ho hlen.symm (Nat.le_refl _)
    rw [List.take_of_length_le (by omega)] at h1
    have h2 := own_belowI h1 (Lib.below_grow _ _ (Nat.le_refl _) 0 os)
    refine ⟨rfl, by rw [← hlen]; exact h2, ?_⟩
    have hbp := Lib.below_putRow (enc := encStr) (q := q) (d := K.toArray) hB hbg
    exact hbp.trans ((Lib.below_grow _ _ (Nat.le_refl _) 0 os).mono (Nat.le_trans hbase (by simp [putRow, mapBlock, Sort.ahead])))
theorem own_gbN {w w' : World} {base n size : Nat} {r : Option Nat} {e : TypeId} {v : Value} {xs : List Value} (h : w.ownsRow base e size v n xs) (hg : w.grownBy w' r) (hne : ∀ g, v.ownBlock = some g → r ≠ some g) : w'.ownsRow base e size v n xs := by
  refine ⟨h.1, ?_⟩
  rcases h.2 with h1 | ⟨g, cap, cur, hv, hgb, hh, h3⟩
  · exact .inl h1
  · exact .inr ⟨g, cap, cur, hv, hgb, (hg.block g (Array.getElem?_eq_some_iff.1 hh).1 (fun e => hne g (by rw [hv]; rfl) e.symm)).trans hh, h3⟩
theorem gb_box2' {w w' : World} {d : Nat} {x y : Value} {r : Option Nat} (h : w.grownBy w' r) (hne : some d ≠ r) (hx : Box2 d x y w) : Box2 d x y w' :=
  ⟨(h.cell_far ⟨d, 0, none⟩ hx.lt hne).trans hx.c0, (h.cell_far ⟨d, 1, none⟩ hx.lt hne).trans hx.c1, (h.frozen_far ⟨d, 0, none⟩ hx.lt hne).trans hx.f0, (h.frozen_far ⟨d, 1, none⟩ hx.lt hne).trans hx.f1⟩
def cameN (x : Idn) (os : FL) : List Bytes := (os.filter fun q => decide (repR q.2.r = x)).map (·.1)
theorem cameN_yes {x : Idn} {os : FL} {o : Bytes × FE} (h : repR o.2.r = x) : cameN x (os ++ [o]) = cameN x os ++ [o.1] := by
  unfold cameN
  rw [List.filter_append, List.map_append, List.filter_cons, if_pos (by simp [h])]; rfl
theorem cameN_no {x : Idn} {os : FL} {o : Bytes × FE} (h : repR o.2.r ≠ x) : cameN x (os ++ [o]) = cameN x os := by
  unfold cameN
  rw [List.filter_append, List.map_append, List.filter_cons, if_neg (by simp [h])]; simp
theorem cameN_len (x : Idn) (os : FL) : (cameN x os).length ≤ os.length := by
  unfold cameN
  rw [List.length_map]
  exact List.length_filter_le _ _
theorem cameN_of {x : Idn} {os F : FL} (h : os.Perm F) (B : BL) : (cameN x os).Perm (ofN (plainNode F B) x) := by
  have e : ofN (plainNode F B) x = cameN x F := by
    unfold ofN plainNode alMap cameN
    rw [List.filter_map, List.map_map]
    rfl
  rw [e]
  exact (h.filter _).map _
theorem AlCame.len {K V : Type} [DecidableEq K] {lit : K → Lit} {lt : K → K → Bool} {ok okw : K → Prop} (E : KeyEmb lit lt ok okw) {L : List (K × V)} {left : Lit → Bool} {os : List (K × V)} (h : AlCame lit L left os) (hs : AlSrt lt L) : os.length ≤ L.length := by
  have h1 : (os.map (·.1)).length ≤ (L.map (·.1)).length := nodup_len h.1 (fun a ha => by
    obtain ⟨o, ho, rfl⟩ := List.mem_map.1 ha
    exact List.mem_map_of_mem (h.sub o ho))
  simpa using h1
set_option maxRecDepth 100000 in
set_option maxHeartbeats 4000000 in
theorem NdOf_gen (n fm bm : Nat) (F : FL) (B : BL) (hsf : AlSrt bytesBefore F) (hkf : ∀ p ∈ F, StrOk p.1) (hfl : F.length ≤ 30) (hif : ∀ q ∈ F, q.2.r.ids.length ≤ 250) (x : Idn) (w : World) (h : ONode n fm bm F B w) :
    Calls Tryz.prog 58 #[.pointer (some ⟨n, 0, none⟩), idV x] w fun e w' => ∃ v, e = .returned v ∧ w'.ownsRow w.heap.size 9 1 v (ofN (plainNode F B) x).length ((ofN (plainNode F B) x).map VT) ∧ Below w.heap.size w w' := by
  obtain ⟨i0, hi, hz0, hz1, hz2⟩ := info_parts info_stringG
  have hb0 : Below w.heap.size w (w.alloc (.cells #[.int .u32 (x.1 : Int), .int .i64 x.2] 47)) := (Below.refl _ w).alloc (Nat.le_refl _) _
  have HX0 := Lib.hid (Box2.mk' w (.int .u32 (x.1 : Int)) (.int .i64 x.2) 47)
  have HB0 := Lib.hid hb0
  have HN := Lib.hid (h.below hb0)
  have HIF := Lib.hid hif
  have HKF := Lib.hid hkf
  have HSF := Lib.hid hsf
  have HOS : Hid ((ofN (plainNode F B) x).Pairwise fun a b => bytesBefore a b = true) := Lib.hid (by
    unfold ofN plainNode
    rw [List.pairwise_map]
    exact List.Pairwise.filter _ (alMap_srt.2 hsf))
  have hz0' : (w.alloc (.cells #[.int .u32 (x.1 : Int), .int .i64 x.2] 47)).heap.size = w.heap.size + 1 := by simp
  have c0 := (h.below hb0).c0
  clear h hb0 hif hkf hsf
  go_enter Tryz.func58, Tryz.ntmps58
  go_wp2_with (first | (at_range; refine wpList_range_own _ rfl _ 102 rfl 9 65 lawStr Tryz.underlying102 rawE fm F.length (alD strLit feV F) rfl HN.out.files ?_; intro w0 hrg0 hg0 hs0) | fail)
  generalize w.alloc (.cells #[.int .u32 (x.1 : Int), .int .i64 x.2] 47) = w1 at *
  have hmlt := HN.out.files.blt
  go_frame
  have hb1 : Below w1.heap.size w1 w0 := (Below.refl _ _).grown hg0 (Nat.le_refl _) (fun j hj => by cases hj)
  have HRG0 := Lib.hid hrg0
  have HN0 := Lib.hid (HN.out.below hb1)
  have HX1 := Lib.hid (HX0.out.below hb1 HX0.out.lt)
  have HB1 := Lib.hid (HB0.out.trans (hb1.mono HB0.out.size))
  have HB01 := Lib.hid hb1
  have hw01 := hb1.size
  have hrlt := hrg0.lt
  have HZ0 := Lib.hid hz0'
  clear hrg0 hg0 hs0 hb1 c0 hz0'
  go_loopg [5] (Maps.size (alD strLit feV F)) (fun gh v5 wr => ∃ (left : Lit → Bool) (os : FL), wr.ranges Tryz.prog 9 rawE fm w1.heap.size F.length (alD strLit feV F) left gh ∧ Hid (AlCame strLit F left os) ∧ Hid (wr.ownsRow w0.heap.size 9 1 v5 (cameN x os).length ((cameN x os).map VT)) ∧ Hid (Below w1.heap.size w1 wr) ∧ w0.heap.size ≤ wr.heap.size ∧ Hid (Box2 w.heap.size (.int .u32 (x.1 : Int)) (.int .i64 x.2) wr))
  case atStart => exact ⟨_, [], HRG0.out, Lib.hid (AlCame.start strEmb feV HKF.out), Lib.hid (World.ownsRow_nil _ _ _ _), HB01, Nat.le_refl _, HX1⟩
  case round =>
    obtain ⟨left, os, hrg, hcm, HRW, HBR, hzr, HXR⟩ := hrel
    have hosl : os.length ≤ 30 := by have := hcm.out.len strEmb HSF.out; omega
    have hcl : (cameN x os).length ≤ 30 := Nat.le_trans (cameN_len x os) hosl
    have HSTP := Lib.hid (fun o ho hl => hcm.out.step (o := o) strEmb HSF.out HKF.out ho hl)
    go_wp2_with (first | (at_next; refine wpList_next_ranges _ rfl _ rfl 9 lawStr rawE strV id strRd.mk_inv rawE_inv fm w1.heap.size F.length (alD strLit feV F) left _ rfl hrg ?_ ?_) | fail)
    · intro _ hl0
      have HPM := Lib.hid (cameN_of (x := x) (hcm.out.perm strEmb HSF.out hl0) B)
      have hlen : (cameN x os).length ≤ 1000000 := by omega
      have HST := Lib.hid (SSort_any w0.heap.size u5 (ofN (plainNode F B) x) (cameN x os) HOS.out HPM.out hlen wr wr (Below.refl _ _) hzr HRW.out)
      clear hl0 hrg hcm HSTP
      go_wp2_with fail
      refine HST.out.mono ?_
      rintro e w2 ⟨rfl, ho2, hb2⟩
      have HO2 := Lib.hid ho2
      have HB2 := Lib.hid (HB0.out.trans ((HBR.out.trans (hb2.mono hw01)).mono HB0.out.size))
      clear ho2 hb2
      go_wp2
      go_ret
      exact ⟨_, rfl, ownsRow_base_a HO2.out HB1.out.size, HB2.out⟩
    · intro nm c kl yd yp w2 cnt2 hkey hlk hv hat hrg2 hlt hg2 hs2 hen
      obtain ⟨rfl, hx, fe, hm, rfl⟩ := al_came strRd HKF.out hkey hv hat
      have HB2 := Lib.hid (HBR.out.grown hg2 (Nat.le_trans hw01 hzr) (fun j hj => by cases hj; omega))
      have HCM := Lib.hid (HSTP.out (nm, fe) hm hlk)
      have HRW2 := Lib.hid (own_gbN HRW.out hg2 (fun g e1 e2 => by injection e2 with e2; have := own_ge HRW.out e1; omega))
      have hsz2 : w0.heap.size ≤ w2.heap.size := Nat.le_trans hzr hg2.size
      have HX2 := Lib.hid (gb_box2 hg2 (by have := HZ0.out; omega) HXR.out)
      have HN2 := Lib.hid (HN.out.below HB2.out)
      obtain ⟨SA, sc, hsl⟩ : ∃ A c, fe.sl = .slice A fe.r.ids.length c := by obtain ⟨A, c, h, _⟩ := HN2.out.rd _ hm; exact ⟨A, c, h⟩
      have hrd := HN2.out.rd _ hm
      have hil : fe.r.ids.length ≤ 250 := HIF.out _ hm
      simp only at hrd
      unfold feV at hen hrg2
      rw [hsl] at hrd hen
      have hb3 : Below w2.heap.size w2 (w2.alloc (.cells #[VT fe.r.name, .int .i64 fe.r.len, .int .u32 (fe.r.print : Int), .slice SA fe.r.ids.length sc] 65)) := (Below.refl _ _).alloc (Nat.le_refl _) _
      have HY3 := Lib.hid (Box4.mk' w2 (VT fe.r.name) (.int .i64 fe.r.len) (.int .u32 (fe.r.print : Int)) (.slice SA fe.r.ids.length sc) 65)
      have HRD3 := Lib.hid ((hrd.keep hb3 (Nat.le_refl _)).more hb3.size)
      have HX3 := Lib.hid (HX2.out.below hb3 HX2.out.lt)
      have HB3 := Lib.hid (HB2.out.trans (hb3.mono (Nat.le_trans hw01 hsz2)))
      have HRW3 := Lib.hid (own_belowI HRW2.out hb3)
      have HRG3 := Lib.hid (World.ranges.kept hrg2 (gb_of_below (r := none) hb3) (by simp) (by simp))
      have hsz3 : w0.heap.size ≤ (w2.alloc (.cells #[VT fe.r.name, .int .i64 fe.r.len, .int .u32 (fe.r.print : Int), .slice SA fe.r.ids.length sc] 65)).heap.size := Nat.le_trans hsz2 hb3.size
      have HKN : Hid (nm.length ≤ maxLen) := Lib.hid hx
      clear hkey hlk hv hat hrg2 hg2 hs2 hx hm hrg hcm hsl hrd hb3 HSTP HN2 HX2 HRW2 HRW HBR HXR HB2
      unfold feV
      go_wp2
      generalize w2.alloc (.cells #[VT fe.r.name, .int .i64 fe.r.len, .int .u32 (fe.r.print : Int), .slice SA fe.r.ids.length sc] 65) = w3 at *
      have hS0 : Below w3.heap.size w3 w3.drew := (Below.refl _ _).drew
      refine region_S (fun w' => Below w3.heap.size w3 w') 3 (by kernel_rfl) (by kernel_rfl) ?_
      refine take_S 0 rfl (by kernel_rfl) (by kernel_rfl) hS0 (fun w' hS => by obtain ⟨e0, e1, e2, e3, _⟩ := HY3.out.below hS HY3.out.lt; go_simp; rfl) ?_
      refine take_S 2 rfl (by kernel_rfl) (by kernel_rfl) hS0 (fun w' hS => by have A0 := (HX3.out.below hS HX3.out.lt).c0; have A1 := (HX3.out.below hS HX3.out.lt).c1; go_simp; rfl) ?_
      refine carry_S 1 rfl (by kernel_rfl) (by decide) (by kernel_rfl) (fun K hK => ?_)
      go_simp
      refine (RcRep_any (.agg #[VT fe.r.name, .int .i64 fe.r.len, .int .u32 (fe.r.print : Int), .slice SA fe.r.ids.length sc]) fe.r (by omega) _ ⟨_, rfl, (HRD3.out.keep hS0 (Nat.le_refl _)).more hS0.size⟩).mono ?_
      rintro e w4 ⟨rfl, hbw4⟩
      have hS1 : Below w3.heap.size w3 w4 := hS0.trans (hbw4.mono hS0.size)
      refine hK _ _ hS1 (forced_S (by kernel_rfl) ?_)
      clear hK K
      try simp only [Act.put, List.getElem_toArray, List.getElem_cons_succ, List.getElem_cons_zero, List.setIfInBounds_toArray, List.set_cons_zero, List.set_cons_succ]
      try simp only [Act.put, List.getElem_toArray, List.getElem_cons_succ, List.getElem_cons_zero, List.setIfInBounds_toArray, List.set_cons_zero, List.set_cons_succ]
      simp only [List.drop_succ_cons, List.drop_zero]
      have HB4 := Lib.hid (HB3.out.trans (hS1.mono (Nat.le_trans hw01 hsz3)))
      have HRW4 := Lib.hid (own_belowI HRW3.out hS1)
      have HRG4 := Lib.hid (World.ranges.kept HRG3.out (gb_of_below (r := none) hS1) (by simp) (by simp))
      have HX4 := Lib.hid (HX3.out.below hS1 HX3.out.lt)
      have hsz4 : w0.heap.size ≤ w4.heap.size := Nat.le_trans hsz3 hS1.size
      clear hS0 hS1 hbw4 HB3 HRW3 HRG3 HX3 HY3 HRD3 hen
      by_cases hr : repR fe.r = x
      · obtain ⟨t1, t2⟩ := idq_eqs (show repOf fe.r.ids = x from hr)
        have HC2 : Hid (cameN x (os ++ [(nm, fe)]) = cameN x os ++ [nm]) := Lib.hid (cameN_yes (o := (nm, fe)) hr)
        have hnl : nm.length ≤ maxLen := HKN.out
        clear hr
        obtain ⟨A5, c5, hv5⟩ := own_formI HRW4.out
        subst hv5
        go_wp2_with (at_builtin; refine wpList_append_own _ rfl _ _ 27 rfl w0.heap.size 9 i0 (.string ByteArray.empty) 1 16 Tryz.underlying27 hi hz0 hz1 hz2 rfl (by decide) _ _ _ rfl (HRW4.out.alloc _) ⟨w4.heap.size, 0, none⟩ 1 1 [.string (bs nm)] rfl rfl (cell_oneG _ _ _) (by simp [Value.oneCell']) (by unfold maxLen; omega) (by omega) (by simp; omega) ?_; intro v6 w6 ho6 hg6 _)
        have HBA : Hid (Below w4.heap.size w4 (w4.alloc (.cells #[.string (bs nm)] 9))) := Lib.hid ((Below.refl _ _).alloc (Nat.le_refl _) _)
        have hrwa := own_belowI HRW4.out HBA.out
        have hz4 : w1.heap.size ≤ w4.heap.size := Nat.le_trans hw01 hsz4
        have HB6 := Lib.hid ((HB4.out.trans (HBA.out.mono hz4)).grown hg6 (Nat.le_trans hz4 HBA.out.size) (fun j hj => Nat.le_trans hw01 (own_ge hrwa hj)))
        have HRG6 := Lib.hid (World.ranges.kept (World.ranges.kept HRG4.out (gb_of_below (r := none) HBA.out) (by simp) (by simp)) hg6 (fun e => by have := own_ge hrwa e.symm; omega) (fun e => by have := own_ge hrwa e.symm; omega))
        have HX6 := Lib.hid (gb_box2' hg6 (fun e => by have := own_ge hrwa e.symm; have := HX0.out.lt; omega) (HX4.out.below HBA.out HX4.out.lt))
        have hsz6 : w0.heap.size ≤ w6.heap.size := Nat.le_trans (Nat.le_trans hsz4 HBA.out.size) hg6.size
        have HRW6 : Hid (w6.ownsRow w0.heap.size 9 1 v6 (cameN x (os ++ [(nm, fe)])).length ((cameN x (os ++ [(nm, fe)])).map VT)) := Lib.hid (by rw [HC2.out, List.length_append, List.map_append]; exact ho6)
        clear hrwa ho6 hg6 HBA
        go_roundg cnt2
        case measure => exact hlt
        case rel => exact ⟨_, os ++ [(nm, fe)], HRG6.out, HCM, HRW6, HB6, hsz6, HX6⟩
      · have HC2 : Hid (cameN x (os ++ [(nm, fe)]) = cameN x os) := Lib.hid (cameN_no (o := (nm, fe)) hr)
        have HRW6 : Hid (w4.ownsRow w0.heap.size 9 1 u5 (cameN x (os ++ [(nm, fe)])).length ((cameN x (os ++ [(nm, fe)])).map VT)) := Lib.hid (by rw [HC2.out]; exact HRW4.out)
        rcases idq_ne (show ¬ repOf fe.r.ids = x from hr) with t1 | ⟨t1, t2⟩
        · clear hr
          go_wp2
          go_roundg cnt2
          case measure => exact hlt
          case rel => exact ⟨_, os ++ [(nm, fe)], HRG4.out, HCM, HRW6, HB4, hsz4, HX4⟩
        · clear hr
          go_wp2
          go_roundg cnt2
          case measure => exact hlt
          case rel => exact ⟨_, os ++ [(nm, fe)], HRG4.out, HCM, HRW6, HB4, hsz4, HX4⟩
end Go.Proofs.YtpanoplcamdnkaaGreatDoor
/- Nodes in memory: walk of Drop. Condition: the sentinels that are read lie as named (SomeS). -/
namespace Go.Proofs.YtpanoplcamdnkaaGreatDoor
open Go.RowKit Go.Lib Go.Maps Go.WideMaps

def DropNPost (a : Nat → Addr) (n fm bm : Nat) (F : FL) (B : BL) (nm : Bytes) (w : World) (e : Ending) (w' : World) : Prop :=
  ∃ r f', e = .returned r ∧ ES a r (dropN nm (plainNode F B)).2 ∧ Node n (dropN nm (plainNode F B)).1 f' w' ∧ FrS (nodeFoot n fm bm F B).S w w' ∧ (nodeFoot n fm bm F B).new f' w.heap.size
theorem dropAll_next {x : Idn} {r : IdL} {L L' : HldL} {c : Int} (h : dropB x L = (L', c)) : dropAll (x :: r) L = if c = 0 then dropAll r L' else (L', c) := by
  rw [dropAll, h]
theorem tidy_any {F : FL} {B B' : BL} {x : Idn} {L : HldL} (h : ofN (plainNode F B) x ≠ []) : tidyN (alMap FE.r F) x L (alMap BE.L B') = alPut lesser x L (alMap BE.L B') := by
  unfold tidyN
  rw [if_pos]
  obtain ⟨y, hy⟩ := List.exists_mem_of_ne_nil _ h
  unfold ofN plainNode at hy
  obtain ⟨q, hq, _⟩ := List.mem_map.1 hy
  exact List.any_eq_true.2 ⟨q, (List.mem_filter.1 hq).1, (List.mem_filter.1 hq).2⟩
theorem tidy_none {F : FL} {B B' : BL} {x : Idn} {L : HldL} (h : ofN (plainNode F B) x = []) : tidyN (alMap FE.r F) x L (alMap BE.L B') = alDel x (alMap BE.L B') := by
  unfold tidyN
  rw [if_neg]
  intro ha
  obtain ⟨q, hq, hq2⟩ := List.any_eq_true.1 ha
  unfold ofN plainNode at h
  rw [List.map_eq_nil_iff] at h
  have : q ∈ (alMap FE.r F).filter fun q => decide (repR q.2 = x) := List.mem_filter.2 ⟨hq, hq2⟩
  rw [h] at this
  cases this
set_option maxRecDepth 100000 in
set_option maxHeartbeats 1000000 in
theorem NdDrop_none (a : Nat → Addr) (n fm bm : Nat) (F : FL) (B : BL) (hP : NodeOk (plainNode F B)) (nm : Bytes) (hn : StrOk nm) (hgf : alGet F nm = none) (w : World) (h : ONode n fm bm F B w) (hs : SomeS [4, 10] a w) :
    Calls Tryz.prog 13 #[.pointer (some ⟨n, 0, none⟩), .string (bs nm)] w (DropNPost a n fm bm F B nm w) := by
  have LK := fun w' (h' : ONode n fm bm F B w') => h'.files.look strRd (h.keysF hP) Tryz.underlying102 (zeroFE w') hn
  have c0 := h.c0
  have hd : dropN nm (plainNode F B) = (plainNode F B, 5) := by unfold dropN; rw [show alGet (plainNode F B).files nm = none by show alGet (alMap FE.r F) nm = _; rw [alGet_map, hgf]; rfl]
  rw [hgf] at LK
  simp only [Option.map_none, Option.getD_none, Option.isSome_none] at LK
  have lk := LK w h
  have hb1 : Below w.heap.size w (w.alloc (.cells #[.string ByteArray.empty, .int .i64 0, .int .u32 0, .slice none 0 0] 65)) := (Below.refl _ w).alloc (Nat.le_refl _) _
  have s4 : (w.alloc (.cells #[.string ByteArray.empty, .int .i64 0, .int .u32 0, .slice none 0 0] 65)).cell? ⟨2, 0, none⟩ = some (sval a 4) := (hs.below hb1) 4 (by simp)
  unfold sval at s4
  have HFIN : Hid (∀ w', Below w.heap.size w w' → DropNPost a n fm bm F B nm w (.returned (sval a 4)) w') := Lib.hid (fun w' hb => ⟨_, _, rfl, by rw [hd]; exact ES.sent a 4 (by decide), by rw [hd]; exact (h.below hb).node, FrS.of_below hb, Foot.new_refl _ _⟩)
  have HB1 := Lib.hid hb1
  clear LK hgf h hP hn hs hd hb1
  go_enter Tryz.func13, Tryz.ntmps13
  go_wp2
  go_ret
  exact HFIN.out _ HB1.out
set_option maxRecDepth 100000 in
set_option maxHeartbeats 8000000 in
theorem NdDrop_some (a : Nat → Addr) (n fm bm : Nat) (F : FL) (B : BL) (hP : NodeOk (plainNode F B)) (nm : Bytes) (hn : StrOk nm) (fe : FE) (hgf : alGet F nm = some fe) (w : World) (h : ONode n fm bm F B w) (hs : SomeS [4, 10] a w) :
    Calls Tryz.prog 13 #[.pointer (some ⟨n, 0, none⟩), .string (bs nm)] w (DropNPost a n fm bm F B nm w) := by
  have LK := fun w' (h' : ONode n fm bm F B w') => h'.files.look strRd (h.keysF hP) Tryz.underlying102 (zeroFE w') hn
  have c0 := h.c0
  obtain ⟨hrd, hil, hgp⟩ := h.file hP hgf
  obtain ⟨s, hnm, hsz, hr, L, hgL, _⟩ := hP.file nm fe.r hgp
  obtain ⟨be, hgb, hbL⟩ : ∃ be, alGet B (repR fe.r) = some be ∧ be.L = L := by
    have : alGet (alMap BE.L B) (repR fe.r) = some L := hgL
    rw [alGet_map] at this
    cases hb : alGet B (repR fe.r) with
    | none => rw [hb] at this; cases this
    | some be => rw [hb] at this; injection this with this; exact ⟨be, rfl, this⟩
  subst hbL
  have hbin : binN (plainNode F B) (repR fe.r) = be.L := by unfold binN; rw [hgL]; rfl
  obtain ⟨hda, hst⟩ := hP.drops hgp
  rw [hbin] at hda hst
  have hok7 := (hP.theBin (repR fe.r)).1
  have hl7 := (hP.theBin (repR fe.r)).2.1
  rw [hbin] at hok7 hl7
  have hdn : dropN nm (plainNode F B) = (⟨alDel nm (alMap FE.r F), tidyN (alDel nm (alMap FE.r F)) (repR fe.r) (dropAll fe.r.ids be.L).1 (alMap BE.L B)⟩, 0) := by
    unfold dropN
    rw [hgp]
    simp only
    rw [hbin]; rfl
  have hxo : IdOk0 (repR fe.r) := (hP.bin _ _ hgL).1
  have HIX : Hid (∀ x ∈ fe.r.ids, IdOk x) := Lib.hid (fun x hx => by
    rw [show fe.r.ids = idsOf s by rw [hr]; rfl] at hx
    obtain ⟨p, hp, rfl⟩ := List.mem_map.1 hx
    exact (idOf_ok0 (pieces_max s p hp)).1)
  have LKB := fun w' (h' : ONode n fm bm F B w') => h'.bins.at idRd (h.keysB hP) Tryz.underlying103 (zeroBE w') hxo.1
  rw [hgb] at LKB
  simp only [Option.map_some, Option.getD_some] at LKB
  unfold beV at LKB
  rw [hgf] at LK
  simp only [Option.map_some, Option.getD_some, Option.isSome_some] at LK
  unfold feV at LK
  obtain ⟨SA, sc, hsl⟩ : ∃ A c, fe.sl = .slice A fe.r.ids.length c := by obtain ⟨A, c, h, _⟩ := hrd; exact ⟨A, c, h⟩
  rw [hsl] at LK hrd
  have lk := LK w h
  have HOB : Hid (∀ w', ONode n fm bm F B w' → OBin be.b be.mb be.L w') := Lib.hid (fun w' h' => h'.bin (_, be) (alGet_mem hgb))
  have hrep : repOf fe.r.ids = repR fe.r := rfl
  generalize repR fe.r = X at *
  have HREP := Lib.hid hrep
  have HLB := Lib.hid LKB
  have HN := Lib.hid h
  have HP := Lib.hid hP
  have HRD := Lib.hid hrd
  have HS := Lib.hid hs
  have HXO := Lib.hid hxo
  have HNM := Lib.hid hn
  have HDN := Lib.hid hdn
  have HDA := Lib.hid hda
  have HOK7 : Hid (BinOk 7500 be.L ∧ be.L.length ≤ 250) := Lib.hid ⟨hok7, hl7⟩
  clear LK LKB hgf h hP hn hs hrd hgp hgL hr hgb hbin hda hst hok7 hl7 hdn hxo hrep hnm hsz
  have hb1 : Below w.heap.size w (w.alloc (.cells #[VT fe.r.name, .int .i64 fe.r.len, .int .u32 (fe.r.print : Int), .slice SA fe.r.ids.length sc] 65)) := (Below.refl _ w).alloc (Nat.le_refl _) _
  have HX1 := Lib.hid (Box4.mk' w (VT fe.r.name) (.int .i64 fe.r.len) (.int .u32 (fe.r.print : Int)) (.slice SA fe.r.ids.length sc) 65)
  have HB1 := Lib.hid hb1
  have hz1 := hb1.size
  have HRP := Lib.hid (RcRep_any (.agg #[VT fe.r.name, .int .i64 fe.r.len, .int .u32 (fe.r.print : Int), .slice SA fe.r.ids.length sc]) fe.r (by omega) (w.alloc (.cells #[VT fe.r.name, .int .i64 fe.r.len, .int .u32 (fe.r.print : Int), .slice SA fe.r.ids.length sc] 65)) ⟨_, rfl, (HRD.out.keep hb1 (Nat.le_refl _)).more hz1⟩)
  rw [HREP.out] at HRP
  obtain ⟨e0, e1, e2, e3, _⟩ := HX1.out
  clear hb1
  go_enter Tryz.func13, Tryz.ntmps13
  go_wp2_with fail
  refine HRP.out.mono ?_
  rintro e w2 ⟨rfl, hb2⟩
  have HX2 := Lib.hid (HX1.out.below hb2 HX1.out.lt)
  have HB2 := Lib.hid (HB1.out.trans (hb2.mono hz1))
  have hb3 : Below w2.heap.size w2 (w2.alloc (.cells #[.int .u32 (X.1 : Int), .int .i64 X.2] 47)) := (Below.refl _ _).alloc (Nat.le_refl _) _
  have HX3 := Lib.hid (HX2.out.below hb3 HX2.out.lt)
  have HB3 := Lib.hid (HB2.out.trans (hb3.mono HB2.out.size))
  have HY3 := Lib.hid (Box2.mk' w2 (.int .u32 (X.1 : Int)) (.int .i64 X.2) 47)
  have HN3 := Lib.hid (HN.out.below HB3.out)
  have hx2 : w.heap.size < w2.heap.size := HX2.out.lt
  clear hb2 hb3 e0 e1 e2 e3 lk c0 HRP HX1 HB1 HX2 HB2
  go_wp2
  generalize w2.alloc (.cells #[.int .u32 (X.1 : Int), .int .i64 X.2] 47) = w3 at *
  have hS0 : Below w3.heap.size w3 w3.drew := (Below.refl _ _).drew
  refine region_S (fun w' => Below w3.heap.size w3 w') 7 (by kernel_rfl) (by kernel_rfl) ?_
  refine take_S 0 rfl (by kernel_rfl) (by kernel_rfl) hS0 (fun w' hS => by go_simp; rfl) ?_
  refine take_S 1 rfl (by kernel_rfl) (by kernel_rfl) hS0 (fun w' hS => by go_simp; rfl) ?_
  refine take_S 2 rfl (by kernel_rfl) (by kernel_rfl) hS0 (fun w' hS => by go_simp; rfl) ?_
  refine take_S 3 rfl (by kernel_rfl) (by kernel_rfl) hS0 (fun w' hS => by have A0 := (HN3.out.below hS).c1; go_simp; rfl) ?_
  refine take_S 4 rfl (by kernel_rfl) (by kernel_rfl) hS0 (fun w' hS => by have A0 := (HY3.out.below hS HY3.out.lt).c0; have A1 := (HY3.out.below hS HY3.out.lt).c1; go_simp; rfl) ?_
  refine take_S 5 rfl (by kernel_rfl) (by kernel_rfl) hS0 (fun w' hS => by have A0 := HLB.out w' (HN3.out.below hS); go_simp; rfl) ?_
  refine carry_S 6 rfl (by kernel_rfl) (by decide) (by kernel_rfl) (fun K hK => ?_)
  go_simp
  refine (BnCopy_any be.b be.mb be.L _ (HOB.out _ (HN3.out.below hS0))).mono ?_
  rintro e w4 ⟨b2, mb2, rfl, ho4, hb4, hmb4, hbw4⟩
  have hS1 : Below w3.heap.size w3 w4 := hS0.trans (hbw4.mono hS0.size)
  refine hK _ _ hS1 (forced_S (by kernel_rfl) ?_)
  clear hK K
  try simp only [Act.put, List.getElem_toArray, List.getElem_cons_succ, List.getElem_cons_zero, List.setIfInBounds_toArray, List.set_cons_zero, List.set_cons_succ]
  try simp only [Act.put, List.getElem_toArray, List.getElem_cons_succ, List.getElem_cons_zero, List.setIfInBounds_toArray, List.set_cons_zero, List.set_cons_succ]
  simp only [List.drop_succ_cons, List.drop_zero]
  have HX4 := Lib.hid (HX3.out.below hS1 HX3.out.lt)
  have HY4 := Lib.hid (HY3.out.below hS1 HY3.out.lt)
  have HB4 := Lib.hid (HB3.out.trans (hS1.mono HB3.out.size))
  have HO4 := Lib.hid ho4
  have hy3 : w2.heap.size < w3.heap.size := HY3.out.lt
  have hdz : w3.drew.heap.size = w3.heap.size := rfl
  rw [hdz] at hb4 hmb4
  have HNE : Hid (w.heap.size ≠ mb2 ∧ w2.heap.size ≠ mb2 ∧ w.heap.size ≤ b2 ∧ w.heap.size ≤ mb2) := Lib.hid ⟨by omega, by omega, by omega, by omega⟩
  have hz4 := HB4.out.size
  obtain ⟨e0, e1, e2, e3, _⟩ := HX4.out
  clear hS0 hS1 hbw4 ho4 hb4 hmb4 HX3 HY3 HB3 HN3 hdz
  go_wp2
  clear e0 e1 e2 e3
  go_loopg [36] fe.r.ids.length (fun gh v36 wr => ∃ (k : Nat) (Lk : HldL), v36 = .int .i64 k ∧ k ≤ fe.r.ids.length ∧ gh = fe.r.ids.length - k ∧ Hid (dropAll (fe.r.ids.drop k) Lk = dropAll fe.r.ids be.L) ∧ Hid (BinOk 7500 Lk ∧ Lk.length ≤ 250) ∧ Hid (OBin b2 mb2 Lk wr) ∧ Hid (w4.grownBy wr (some mb2)))
  case atStart => exact ⟨0, be.L, rfl, Nat.zero_le _, rfl, Lib.hid (by rw [List.drop_zero]), HOK7, HO4, Lib.hid ⟨rfl, rfl, rfl, Nat.le_refl _, fun _ _ _ => rfl⟩⟩
  case round =>
    obtain ⟨k, Lk, rfl, hk, hgm, HDK, HBK, HOK, HGB⟩ := hrel
    have HBr : Hid (Below w.heap.size w wr) := Lib.hid (gb_toBelow HB4.out HB4.out.size HNE.out.2.2.2 HGB.out)
    by_cases hkl : k < fe.r.ids.length
    · obtain ⟨A', c', hvv, _, hx⟩ := HRD.out.form
      obtain ⟨g, o, hA, hg, hcell⟩ := hx (by omega)
      injection hvv with hv1 _ hv3
      subst hv1
      subst hv3
      subst hA
      obtain ⟨x0, x1⟩ := hcell k hkl
      have d0 := (HBr.out.cell (p := ⟨g, o + k * 2, none⟩) hg).trans x0
      have d1 := (HBr.out.cell (p := ⟨g, o + k * 2 + 1, none⟩) hg).trans x1
      have b1 : (0 : Int) ≤ (k : Int) := by omega
      have b2' : (k : Int) < (fe.r.ids.length : Int) := by omega
      have hix := HIX.out fe.r.ids[k] (List.getElem_mem hkl)
      have hda := HDK.out
      rw [List.drop_eq_getElem_cons hkl] at hda
      have hlk := HBK.out.2
      generalize fe.r.ids[k] = y at *
      have hb5 : Below wr.heap.size wr (wr.alloc (.cells #[.int .u32 (y.1 : Int), .int .i64 y.2] 47)) := (Below.refl _ _).alloc (Nat.le_refl _) _
      have HDR := Lib.hid (BnDrop_any a b2 mb2 Lk 7500 (by decide) HBK.out.1 (by omega) y hix (wr.alloc (.cells #[.int .u32 (y.1 : Int), .int .i64 y.2] 47)) (HOK.out.below hb5) (HS.out.below (HBr.out.trans (hb5.mono HBr.out.size))))
      have hokd := binOk_drop HBK.out.1 y
      have hlnd := length_drop HBK.out.1.srt (x := y)
      unfold DropPost at HDR
      cases hdb : dropB y Lk with | mk L' c' =>
      rw [dropAll_next hdb] at hda
      rw [hdb] at HDR hokd hlnd
      simp only at HDR hokd hlnd
      have hc : c' = 0 := by
        by_cases hc : c' = 0
        · exact hc
        · rw [if_neg hc] at hda
          have := HDA.out
          rw [← hda] at this
          exact absurd this hc
      subst hc
      rw [if_pos rfl] at hda
      have HDK' := Lib.hid hda
      have HBK' : Hid (BinOk 7500 L' ∧ L'.length ≤ 250) := Lib.hid ⟨hokd, by omega⟩
      have HB5 := Lib.hid hb5
      clear hcell hx x0 x1 hix hda hdb hokd hlnd hb5 HDK
      go_wp2_with fail
      refine HDR.out.mono ?_
      rintro e w6 ⟨r6, rfl, hes, ho6, hg6⟩
      obtain ⟨rfl, _⟩ := hes.nil rfl
      have HO6 := Lib.hid ho6
      have HG6 := Lib.hid ((gb_below HGB.out HB5.out).trans hg6)
      clear hes ho6 hg6 d0 d1
      go_wp2
      go_roundg (fe.r.ids.length - (k + 1))
      case measure => omega
      case rel => exact ⟨k + 1, L', by go_num, hkl, rfl, HDK', HBK', HO6, HG6⟩
    · obtain rfl : k = fe.r.ids.length := by omega
      have hda := HDK.out
      rw [List.drop_length] at hda
      have hL' : (dropAll fe.r.ids be.L).1 = Lk := by rw [← hda]; rfl
      have hdn := HDN.out
      rw [hL'] at hdn
      have hnr := HN.out.below HBr.out
      have hsF := ONode.srtF HP.out
      have hsB := ONode.srtB HP.out
      have hkF := hnr.keysF HP.out
      have hkB := hnr.keysB HP.out
      have hfl : F.length ≤ 30 := by simpa [plainNode, alMap_length] using HP.out.flen
      have c0 := hnr.c0
      obtain ⟨y0r, y1r, _, _⟩ := gb_box2 HGB.out HNE.out.2.1 HY4.out
      obtain ⟨wa, h1, h2, h3, h4⟩ := AlMap.drop strRd hnr.files hkF Tryz.underlying102 nm HNM.out 0
      have hA : ONode n fm bm (alDel nm F) B wa := hnr.setF h4 h3 h2 (fun q hq => .inl (alDel_sub hq))
      have hfmw : fm < w.heap.size := HN.out.files.blt
      have hbmw : bm < w.heap.size := HN.out.bins.blt
      have hobA : OBin b2 mb2 Lk wa := HOK.out.grown h4 (by intro e; injection e with e; have := HNE.out.2.2.1; omega) (by intro e; injection e with e; have := HNE.out.2.2.2; omega)
      have hAd : ONode n fm bm (alDel nm F) B wa.drew := hA.below (Below.refl _ _).drew
      have hobd : OBin b2 mb2 Lk wa.drew := hobA.below (Below.refl _ _).drew
      obtain ⟨wb, k1, k2, k3, k4⟩ := AlMap.upd idRd hAd.bins hsB hkB Tryz.underlying103 (by have := HP.out.blenF; unfold maxLen; omega) X ⟨Lk, b2, mb2⟩ HXO.out
      unfold beV at k1
      have hnew : mb2 ∉ B.map (fun q => q.2.mb) := fun hm => by
        obtain ⟨q, hq, e⟩ := List.mem_map.1 hm
        have := (HN.out.bin q hq).map.lt
        have := HNE.out.2.2.2
        omega
      have hnd0 := HN.out.nd
      rw [List.nodup_cons, List.nodup_cons] at hnd0
      have hmb := HNE.out.2.2.2
      have hbb := HNE.out.2.2.1
      have hND : (fm :: bm :: (alPut lesser X ⟨Lk, b2, mb2⟩ B).map (fun q => q.2.mb)).Nodup := by
        rw [List.nodup_cons, List.nodup_cons]
        refine ⟨fun hm => ?_, fun hm => ?_, alPut_map_nodup (fun q : BE => q.mb) hnd0.2.2 hnew⟩
        · rcases List.mem_cons.1 hm with e | hm
          · exact hnd0.1 (List.mem_cons.2 (.inl e))
          · rcases alPut_map_mem (fun q : BE => q.mb) hm with e | e
            · simp only at e; omega
            · exact hnd0.1 (List.mem_cons_of_mem _ e)
        · rcases alPut_map_mem (fun q : BE => q.mb) hm with e | e
          · simp only at e; omega
          · exact hnd0.2.1 e
      have hB : ONode n fm bm (alDel nm F) (alPut lesser X ⟨Lk, b2, mb2⟩ B) wb := hAd.setB k4 k3 k2 (fun q hq => by
        rcases alPut_mem hq with rfl | hq
        · exact .inr (hobd.grown k4 (by intro e; injection e with e; omega) (by intro e; injection e with e; omega))
        · exact .inl hq) hND
      have HFR : Hid (FrS (nodeFoot n fm bm F B).S w wb) := Lib.hid (((FrS.of_below (S := (nodeFoot n fm bm F B).S) HBr.out).trans (FrS.of_gb (S := (nodeFoot n fm bm F B).S) h4 (.inl rfl)) (fun _ h => .inl h)).trans ((FrS.of_below (S := (nodeFoot n fm bm F B).S) ((Below.refl wa.heap.size wa).drew)).trans (FrS.of_gb (S := (nodeFoot n fm bm F B).S) k4 (.inr (.inl rfl))) (fun _ h => .inl h)) (fun _ h => .inl h))
      have HBN := Lib.hid hB
      have HDN' := Lib.hid hdn
      have c1 := hA.c1
      have y0 := h3 _ _ y0r
      have y1 := h3 _ _ y1r
      have HYB : Hid (wb.cell? ⟨w2.heap.size, 0, none⟩ = some (.int .u32 (X.1 : Int)) ∧ wb.cell? ⟨w2.heap.size, 1, none⟩ = some (.int .i64 X.2)) := Lib.hid ⟨k3 _ _ y0, k3 _ _ y1⟩
      have HOF := Lib.hid (NdOf_gen n fm bm (alDel nm F) (alPut lesser X ⟨Lk, b2, mb2⟩ B) (alSrt_del hsF nm) (fun p hp => hkF p (alDel_sub hp)) (Nat.le_trans (alDel_length F nm) hfl) (fun q hq => HP.out.ids (q.1, q.2.r) (List.mem_map_of_mem (f := fun p : Bytes × FE => (p.1, p.2.r)) (alDel_sub hq))) X wb hB)
      have HKB := Lib.hid (show ∀ p ∈ alPut lesser X ⟨Lk, b2, mb2⟩ B, IdOk0 p.1 from fun p hp => by
        rcases alPut_mem hp with rfl | hp
        · exact HXO.out
        · exact hkB p hp)
      have HNEW : Hid (∀ q ∈ alPut lesser X ⟨Lk, b2, mb2⟩ B, q ∈ B ∨ (w.heap.size ≤ q.2.b ∧ w.heap.size ≤ q.2.mb)) := Lib.hid (fun q hq => by
        rcases alPut_mem hq with rfl | hq
        · exact .inr ⟨hbb, hmb⟩
        · exact .inl hq)
      have HND := Lib.hid hND
      clear hda hL' hdn hnr hsF hsB hkF hkB hfl h2 h3 h4 hA hobA hAd hobd k2 k3 k4 hnew hnd0 hND hB hfmw hbmw hmb hbb y0r y1r
      go_wp2
      have hS0 : Stay wa wa.drew := Stay.refl _
      refine region_S (fun w' => Stay wa w') 6 (by kernel_rfl) (by kernel_rfl) ?_
      refine take_S 0 rfl (by kernel_rfl) (by kernel_rfl) hS0 (fun w' hS => by go_simp; rfl) ?_
      refine take_S 1 rfl (by kernel_rfl) (by kernel_rfl) hS0 (fun w' hS => by go_simp; rfl) ?_
      refine take_S 2 rfl (by kernel_rfl) (by kernel_rfl) hS0 (fun w' hS => by go_simp; rfl) ?_
      refine take_S 3 rfl (by kernel_rfl) (by kernel_rfl) hS0 (fun w' hS => by have A0 := hS _ _ c1; go_simp; rfl) ?_
      refine take_S 4 rfl (by kernel_rfl) (by kernel_rfl) hS0 (fun w' hS => by have A0 := hS _ _ y0; have A1 := hS _ _ y1; go_simp; rfl) ?_
      refine take_S 5 rfl (by kernel_rfl) (by kernel_rfl) hS0 (fun w' hS => by go_simp; rfl) (forced_S (by kernel_rfl) ?_)
      try simp only [Act.put, List.getElem_toArray, List.getElem_cons_succ, List.getElem_cons_zero, List.setIfInBounds_toArray, List.set_cons_zero, List.set_cons_succ]
      simp only [List.drop_succ_cons, List.drop_zero]
      obtain ⟨z0, z1⟩ := HYB.out
      clear hS0 y0 y1 c1
      go_wp2_with fail
      refine HOF.out.mono ?_
      rintro e wc ⟨vo, rfl, hoo, hbc⟩
      obtain ⟨Ao, co, rfl⟩ := own_formI hoo
      have HNC := Lib.hid (HBN.out.below hbc)
      have HFC := Lib.hid (HFR.out.thenB hbc)
      have y0 := (hbc.cell (p := ⟨w2.heap.size, 0, none⟩) (World.block_lt_of_cell? wb _ z0)).trans z0
      have y1 := (hbc.cell (p := ⟨w2.heap.size, 1, none⟩) (World.block_lt_of_cell? wb _ z1)).trans z1
      clear hoo hbc z0 z1
      by_cases hof : ofN (plainNode (alDel nm F) (alPut lesser X ⟨Lk, b2, mb2⟩ B)) X = []
      · have hl0 : ((ofN (plainNode (alDel nm F) (alPut lesser X ⟨Lk, b2, mb2⟩ B)) X).length : Int) = 0 := by rw [hof]; rfl
        have hncd := HNC.out.below (Below.refl wc.heap.size wc).drew
        obtain ⟨wd, m1, m2, m3, m4⟩ := AlMap.drop idRd hncd.bins HKB.out Tryz.underlying103 X HXO.out 0
        rw [alDel_put] at m2
        have hD : ONode n fm bm (alDel nm F) (alDel X B) wd := hncd.setB m4 m3 m2 (fun q hq => by
          have h1 : q ∈ alDel X (alPut lesser X ⟨Lk, b2, mb2⟩ B) := by rw [alDel_put]; exact hq
          exact .inl (alDel_sub h1)) (by
            have h0 := HN.out.nd
            refine h0.sublist (List.Sublist.cons_cons _ (List.Sublist.cons_cons _ ?_))
            exact List.Sublist.map _ List.filter_sublist)
        have HFIN : Hid (DropNPost a n fm bm F B nm w (.returned .nilIface) wd) := Lib.hid (by
          have ht := tidy_none (F := alDel nm F) (B := alPut lesser X ⟨Lk, b2, mb2⟩ B) (B' := B) (L := Lk) hof
          rw [alMap_del] at ht
          have hdn := HDN'.out
          rw [ht] at hdn
          refine ⟨.nilIface, nodeFoot n fm bm (alDel nm F) (alDel X B), rfl, by rw [hdn]; exact ES.none a, ?_, (HFC.out.thenB (Below.refl wc.heap.size wc).drew).trans (FrS.of_gb (S := (nodeFoot n fm bm F B).S) m4 (.inr (.inl rfl))) (fun _ h => .inl h), foot_drop (fun q hq => alDel_sub hq) (fun q hq => .inl (alDel_sub hq))⟩
          rw [hdn]
          have := hD.node
          unfold plainNode at this
          rw [alMap_del, alMap_del] at this
          exact this)
        have c1 := HNC.out.c1
        clear hof hncd m2 m3 m4 hD
        go_wp2
        have hS0 : Stay wc wc.drew := Stay.refl _
        refine region_S (fun w' => Stay wc w') 5 (by kernel_rfl) (by kernel_rfl) ?_
        refine take_S 0 rfl (by kernel_rfl) (by kernel_rfl) hS0 (fun w' hS => by go_simp; rfl) ?_
        refine take_S 1 rfl (by kernel_rfl) (by kernel_rfl) hS0 (fun w' hS => by go_simp; rfl) ?_
        refine take_S 2 rfl (by kernel_rfl) (by kernel_rfl) hS0 (fun w' hS => by go_simp; rfl) ?_
        refine take_S 3 rfl (by kernel_rfl) (by kernel_rfl) hS0 (fun w' hS => by have A0 := hS _ _ c1; go_simp; rfl) ?_
        refine take_S 4 rfl (by kernel_rfl) (by kernel_rfl) hS0 (fun w' hS => by have A0 := hS _ _ y0; have A1 := hS _ _ y1; go_simp; rfl) (forced_S (by kernel_rfl) ?_)
        try simp only [Act.put, List.getElem_toArray, List.getElem_cons_succ, List.getElem_cons_zero, List.setIfInBounds_toArray, List.set_cons_zero, List.set_cons_succ]
        simp only [List.drop_succ_cons, List.drop_zero]
        clear hS0
        go_wp2
        go_ret
        exact HFIN.out
      · have hl0 : ((ofN (plainNode (alDel nm F) (alPut lesser X ⟨Lk, b2, mb2⟩ B)) X).length : Int) ≠ 0 := by
          have := List.length_pos_iff.2 hof; omega
        have hl0' : (((ofN (plainNode (alDel nm F) (alPut lesser X ⟨Lk, b2, mb2⟩ B)) X).length : Int) == 0) = false := beq_eq_false_iff_ne.2 hl0
        have HFIN : Hid (DropNPost a n fm bm F B nm w (.returned .nilIface) wc) := Lib.hid (by
          have ht := tidy_any (F := alDel nm F) (B := alPut lesser X ⟨Lk, b2, mb2⟩ B) (B' := B) (L := Lk) hof
          rw [alMap_del] at ht
          have hdn := HDN'.out
          rw [ht] at hdn
          refine ⟨.nilIface, nodeFoot n fm bm (alDel nm F) (alPut lesser X ⟨Lk, b2, mb2⟩ B), rfl, by rw [hdn]; exact ES.none a, ?_, HFC.out, foot_drop (fun q hq => alDel_sub hq) HNEW.out⟩
          rw [hdn]
          have := HNC.out.node
          unfold plainNode at this
          rw [alMap_del, alMap_put] at this
          exact this)
        clear hof hl0
        go_wp2
        go_ret
        exact HFIN.out
theorem NdDrop_any (a : Nat → Addr) (n fm bm : Nat) (F : FL) (B : BL) (hP : NodeOk (plainNode F B)) (nm : Bytes) (hn : StrOk nm) (w : World) (h : ONode n fm bm F B w) (hs : SomeS [4, 10] a w) :
    Calls Tryz.prog 13 #[.pointer (some ⟨n, 0, none⟩), .string (bs nm)] w (DropNPost a n fm bm F B nm w) := by
  cases hgf : alGet F nm with
  | none => exact NdDrop_none a n fm bm F B hP nm hn hgf w h hs
  | some fe => exact NdDrop_some a n fm bm F B hP nm hn fe hgf w h hs
end Go.Proofs.YtpanoplcamdnkaaGreatDoor
/- Nodes in memory: walk of Sweep. No conditions but bounds. -/
namespace Go.Proofs.YtpanoplcamdnkaaGreatDoor
open Go.RowKit Go.Lib Go.Maps Go.WideMaps

theorem stay_gb {w w' : World} {mb : Nat} (hm : ∃ es clock, w.heap[mb]? = some (.map es clock)) (hg : w.grownBy w' (some mb)) : Stay w w' := by
  intro p v hv
  obtain ⟨es, clock, hb⟩ := hm
  have hl : p.block < w.heap.size := World.block_lt_of_cell? w p hv
  rw [← hv]
  refine World.cell?_of_block (hg.block p.block hl ?_)
  intro e
  injection e with e
  unfold World.cell? at hv
  rw [e, hb] at hv
  simp at hv
theorem OBin.isMap {b mb : Nat} {L : HldL} {w : World} (h : OBin b mb L w) : ∃ es clock, w.heap[mb]? = some (.map es clock) := by
  obtain ⟨es, clock, e1, _⟩ := h.map
  exact ⟨es, clock, e1⟩
/-- the bins of these reps are swept -/
def swB (ks : List Idn) (B : BL) : BL := B.map fun q => (q.1, if q.1 ∈ ks then ⟨sweepB q.2.L, q.2.b, q.2.mb⟩ else q.2)
theorem swB_nil (B : BL) : swB [] B = B := by unfold swB; simp
theorem swB_mb (ks : List Idn) (B : BL) : (swB ks B).map (fun q => q.2.mb) = B.map (fun q => q.2.mb) := by
  unfold swB
  rw [List.map_map]
  refine List.map_congr_left fun q _ => ?_
  show (if q.1 ∈ ks then (⟨sweepB q.2.L, q.2.b, q.2.mb⟩ : BE) else q.2).mb = q.2.mb
  split <;> rfl
theorem swB_D (ks : List Idn) (B : BL) : alD idLit beV (swB ks B) = alD idLit beV B := by
  unfold alD swB
  rw [List.map_map]
  congr 1
  refine List.map_congr_left fun q _ => ?_
  show (idLit q.1, DataW.held (beV (if q.1 ∈ ks then (⟨sweepB q.2.L, q.2.b, q.2.mb⟩ : BE) else q.2))) = (idLit q.1, DataW.held (beV q.2))
  split <;> rfl
theorem swB_len (ks : List Idn) (B : BL) : (swB ks B).length = B.length := by unfold swB; rw [List.length_map]
theorem swB_all {ks : List Idn} {B : BL} (h : ∀ q ∈ B, q.1 ∈ ks) (F : FL) : plainNode F (swB ks B) = sweepN (plainNode F B) := by
  unfold plainNode sweepN alMap swB
  simp only [List.map_map]
  congr 1
  refine List.map_congr_left fun q hq => ?_
  show (q.1, (if q.1 ∈ ks then (⟨sweepB q.2.L, q.2.b, q.2.mb⟩ : BE) else q.2).L) = (q.1, sweepB q.2.L)
  rw [if_pos (h q hq)]
theorem nodup_map_inj {α β : Type} (f : α → β) : ∀ {l : List α}, (l.map f).Nodup → ∀ {a b : α}, a ∈ l → b ∈ l → f a = f b → a = b
  | [], _, _, _, ha, _, _ => absurd ha List.not_mem_nil
  | y :: r, h, a, b, ha, hb, e => by
    rw [List.map_cons, List.nodup_cons] at h
    rcases List.mem_cons.1 ha with e1 | ha'
    · rcases List.mem_cons.1 hb with e2 | hb'
      · rw [e1, e2]
      · rw [e1] at e
        exact absurd (e ▸ List.mem_map_of_mem hb') h.1
    · rcases List.mem_cons.1 hb with e2 | hb'
      · rw [e2] at e
        exact absurd (e ▸ List.mem_map_of_mem ha') h.1
      · exact nodup_map_inj f h.2 ha' hb' e
theorem ONode.sweep1 {n fm bm : Nat} {F : FL} {B : BL} {ks : List Idn} {x : Idn} {be : BE} {w w' : World} (h : ONode n fm bm F (swB ks B) w) (hsr : AlSrt lesser B) (hm : (x, be) ∈ B) (hx : x ∉ ks) (ho0 : OBin be.b be.mb be.L w) (ho : OBin be.b be.mb (sweepB be.L) w') (hg : w.grownBy w' (some be.mb)) :
    ONode n fm bm F (swB (ks ++ [x]) B) w' := by
  have hst := stay_gb ho0.isMap hg
  have hnd := h.nd
  rw [swB_mb] at hnd
  have hnd0 := hnd
  rw [List.nodup_cons, List.nodup_cons] at hnd
  have hmm : be.mb ∈ B.map (fun q => q.2.mb) := List.mem_map_of_mem (f := fun q : Idn × BE => q.2.mb) hm
  have ne : ∀ {k : Nat}, k ≠ be.mb → some k ≠ some be.mb := fun hk e => hk (by injection e)
  have cne : ∀ {k : Nat} {cs t z}, w.heap[k]? = some (.cells cs t z) → k ≠ be.mb := fun {k cs t z} hk e => by
    obtain ⟨es, clock, e1⟩ := ho0.isMap
    rw [e, e1] at hk; cases hk
  refine ⟨(hg.block n h.nlt (ne (cne h.row))).trans h.row, h.files.keep (hg.block fm h.files.blt (ne fun e => hnd.1 (List.mem_cons_of_mem _ (e ▸ hmm)))), ?_, fun q hq => ((h.rd q hq).stay hst).more hg.size, fun q hq => ?_, by rw [swB_mb]; exact hnd0⟩
  · have h1 := h.bins.keep (hg.block bm h.bins.blt (ne fun e => hnd.2.1 (e ▸ hmm)))
    unfold AlMap at h1 ⊢
    rw [swB_D, swB_len] at h1 ⊢
    exact h1
  · obtain ⟨q0, hq0, rfl⟩ := List.mem_map.1 hq
    by_cases e : q0.1 = x
    · have e2 : q0 = (x, be) := al_inj idEmb hsr hq0 hm e
      subst e2
      simp only [List.mem_append, List.mem_singleton, or_true, if_true]
      exact ho
    · have hold : ((q0.1, if q0.1 ∈ ks then (⟨sweepB q0.2.L, q0.2.b, q0.2.mb⟩ : BE) else q0.2) : Idn × BE) ∈ swB ks B := List.mem_map_of_mem (f := fun q : Idn × BE => (q.1, if q.1 ∈ ks then (⟨sweepB q.2.L, q.2.b, q.2.mb⟩ : BE) else q.2)) hq0
      have hk := h.bin _ hold
      have hmne : q0.2.mb ≠ be.mb := fun e3 => e (by
        have : q0 = (x, be) := nodup_map_inj (fun q : Idn × BE => q.2.mb) hnd.2.2 hq0 hm e3
        rw [this])
      have hmem : (q0.1 ∈ ks ++ [x]) ↔ q0.1 ∈ ks := by rw [List.mem_append, List.mem_singleton]; exact ⟨fun h => h.elim id (fun h => absurd h e), .inl⟩
      simp only [hmem]
      have hmb : (if q0.1 ∈ ks then (⟨sweepB q0.2.L, q0.2.b, q0.2.mb⟩ : BE) else q0.2).mb = q0.2.mb := by split <;> rfl
      simp only at hk
      exact hk.keep (hg.block _ hk.lt (ne (cne hk.row))) (hg.block _ hk.map.lt (ne (by rw [hmb]; exact hmne)))
def freeA (os : BL) : Int := (os.map fun q => sizeB q.2.L - sizeB (sweepB q.2.L)).sum
theorem freeA_snoc (os : BL) (o : Idn × BE) : freeA (os ++ [o]) = freeA os + (sizeB o.2.L - sizeB (sweepB o.2.L)) := by unfold freeA; rw [List.map_append, List.sum_append]; simp
theorem sum_perm {l m : List Int} (h : l.Perm m) : l.sum = m.sum := by
  induction h with
  | nil => rfl
  | cons x _ ih => rw [List.sum_cons, List.sum_cons, ih]
  | swap x y l => rw [List.sum_cons, List.sum_cons, List.sum_cons, List.sum_cons]; omega
  | trans _ _ h1 h2 => exact h1.trans h2
theorem freeA_all {os B : BL} (h : os.Perm B) (F : FL) : freeA os = sizeN (plainNode F B) - sizeN (sweepN (plainNode F B)) := by
  have e : freeA os = freeA B := sum_perm (h.map _)
  rw [e]
  unfold freeA sizeN sweepN plainNode alMap
  simp only [List.map_map]
  clear e h os
  induction B with
  | nil => rfl
  | cons q r ih =>
    simp only [List.map_cons, List.sum_cons, Function.comp_apply] at ih ⊢
    omega
theorem free_bound {L : HldL} {n : Int} (h : BinOk n L) (hl : L.length ≤ 250) : 0 ≤ sizeB L - sizeB (sweepB L) ∧ sizeB L - sizeB (sweepB L) ≤ 16000 := by
  have h1 := h.size
  have h2 := (binOk_filter h usedB).size
  have h3 := (binOk_filter h fun x => !usedB x).size
  have h4 := sizeB_sweep L
  have h5 : sizeB (sweepB L) = sizeB (L.filter usedB) := rfl
  omega
theorem freeA_bound {os : BL} (h : ∀ q ∈ os, 0 ≤ sizeB q.2.L - sizeB (sweepB q.2.L) ∧ sizeB q.2.L - sizeB (sweepB q.2.L) ≤ 16000) : 0 ≤ freeA os ∧ freeA os ≤ 16000 * os.length := by
  unfold freeA
  induction os with
  | nil => simp
  | cons q r ih =>
    have h1 := ih (fun z hz => h z (List.mem_cons_of_mem _ hz))
    have h2 := h q List.mem_cons_self
    rw [List.map_cons, List.sum_cons, List.length_cons]; omega
theorem foot_sweep {n fm bm : Nat} {F : FL} {B : BL} (ks : List Idn) (b : Nat) : (nodeFoot n fm bm F B).new (nodeFoot n fm bm F (swB ks B)) b := fun k => by
  refine ⟨?_, ?_⟩
  · rintro (rfl | rfl | ⟨q, hq, rfl⟩)
    · exact .inl (.inl rfl)
    · exact .inl (.inr (.inl rfl))
    · obtain ⟨q0, hq0, rfl⟩ := List.mem_map.1 hq
      refine .inl (.inr (.inr ⟨q0, hq0, ?_⟩))
      show q0.2.mb = (if q0.1 ∈ ks then (⟨sweepB q0.2.L, q0.2.b, q0.2.mb⟩ : BE) else q0.2).mb
      split <;> rfl
  · rintro (rfl | ⟨q, hq, rfl⟩ | h)
    · exact .inl (.inl rfl)
    · obtain ⟨q0, hq0, rfl⟩ := List.mem_map.1 hq
      refine .inl (.inr (.inl ⟨q0, hq0, ?_⟩))
      show q0.2.b = (if q0.1 ∈ ks then (⟨sweepB q0.2.L, q0.2.b, q0.2.mb⟩ : BE) else q0.2).b
      split <;> rfl
    · exact .inl (.inr (.inr h))
def SweepNPost (n fm bm : Nat) (F : FL) (B : BL) (w : World) (e : Ending) (w' : World) : Prop :=
  ∃ f', e = .returned (.int .i64 (sizeN (plainNode F B) - sizeN (sweepN (plainNode F B)))) ∧ Node n (sweepN (plainNode F B)) f' w' ∧ FrS (nodeFoot n fm bm F B).S w w' ∧ (nodeFoot n fm bm F B).new f' w.heap.size
set_option maxRecDepth 100000 in
set_option maxHeartbeats 2000000 in
theorem NdSweep_any (n fm bm : Nat) (F : FL) (B : BL) (hP : NodeOk (plainNode F B)) (w : World) (h : ONode n fm bm F B w) :
    Calls Tryz.prog 15 #[.pointer (some ⟨n, 0, none⟩)] w (SweepNPost n fm bm F B w) := by
  have HN := Lib.hid h
  have HP := Lib.hid hP
  have HKB := Lib.hid (h.keysB hP)
  have HSB := Lib.hid (ONode.srtB hP)
  have c1 := h.c1
  have hnl := h.nlt
  have hml := h.bins.blt
  have hbl := hP.blenF
  clear h hP
  go_enter Tryz.func15, Tryz.ntmps15
  go_wp2_with (first | (at_range; refine wpList_range_own _ rfl _ 103 rfl 47 42 lawI Tryz.underlying103 rawE bm B.length (alD idLit beV B) rfl HN.out.bins ?_; intro w0 hrg0 hg0 hs0) | fail)
  go_frame
  have hb0 : Below w.heap.size w w0 := (Below.refl _ _).grown hg0 (Nat.le_refl _) (fun j hj => by cases hj)
  have HRG0 := Lib.hid hrg0
  have HN0 : Hid (ONode n fm bm F (swB [] B) w0) := Lib.hid (by rw [swB_nil]; exact HN.out.below hb0)
  have HFR0 : Hid (FrS (nodeFoot n fm bm F B).S w w0) := Lib.hid (FrS.of_below hb0)
  clear hrg0 hg0 hs0 hb0
  go_loopg [3] (Maps.size (alD idLit beV B)) (fun gh v3 wr => ∃ (left : Lit → Bool) (os : BL) (z : Int), wr.ranges Tryz.prog 47 rawE bm w.heap.size B.length (alD idLit beV B) left gh ∧ v3 = .int .i64 z ∧ Hid (z = freeA os) ∧ 0 ≤ z ∧ z ≤ 16000 * 30 ∧ Hid (AlCame idLit B left os) ∧ Hid (ONode n fm bm F (swB (os.map (·.1)) B) wr) ∧ Hid (FrS (nodeFoot n fm bm F B).S w wr))
  case atStart => exact ⟨_, [], 0, HRG0.out, rfl, Lib.hid rfl, by omega, by omega, Lib.hid (AlCame.start idEmb beV HKB.out), HN0, HFR0⟩
  case round =>
    obtain ⟨left, os, z, hrg, rfl, hz, hz0, hz1, HCM, HNR, HFR⟩ := hrel
    go_wp2_with (first | (at_next; refine wpList_next_ranges _ rfl _ rfl 47 lawI rawE idV id idRd.mk_inv rawE_inv bm w.heap.size B.length (alD idLit beV B) left _ rfl hrg ?_ ?_) | fail)
    · intro _ hl0
      have hpm := HCM.out.perm idEmb HSB.out hl0
      have HZ : Hid (z = sizeN (plainNode F B) - sizeN (sweepN (plainNode F B))) := Lib.hid (hz.out.trans (freeA_all hpm F))
      have HFIN : Hid (SweepNPost n fm bm F B w (.returned (.int .i64 z)) wr) := Lib.hid (by
        refine ⟨nodeFoot n fm bm F (swB (os.map (·.1)) B), by rw [HZ.out], ?_, HFR.out, foot_sweep _ _⟩
        have := HNR.out.node
        rw [swB_all (fun q hq => List.mem_map_of_mem (f := fun q : Idn × BE => q.1) (hpm.mem_iff.2 hq))] at this
        exact this)
      clear hl0 hpm
      go_wp2
      go_ret
      exact HFIN.out
    · intro x1 x2 c kl yd yp w2 cnt2 hkey hlk hv hat hrg2 hlt hg2 hs2 hen
      obtain ⟨rfl, hx, be, hm, rfl⟩ := al_came idRd (x := (x1, x2)) HKB.out hkey hv hat
      have hq := HP.out.binOf hm
      simp only at hq
      have hnew : (x1, x2) ∉ os.map (·.1) := fun hmm => by
        obtain ⟨o, ho, e⟩ := List.mem_map.1 hmm
        have := ((HCM.out.2 o).1 ho).2
        rw [e, hlk] at this; cases this
      have HCM2 := Lib.hid (HCM.out.step (o := ((x1, x2), be)) idEmb HSB.out HKB.out hm hlk)
      have hfb := free_bound hq.1 hq.2.1
      have hbd := freeA_bound (os := os ++ [((x1, x2), be)]) (fun q hq' => by
        have hqB := HCM2.out.sub q hq'
        have h1 := HP.out.binOf hqB
        exact free_bound h1.1 h1.2.1)
      rw [freeA_snoc, ← hz.out] at hbd
      have hln : (os ++ [((x1, x2), be)]).length ≤ 30 := by
        have h1 : ((os ++ [((x1, x2), be)]).map (·.1)).length ≤ (B.map (·.1)).length := nodup_len HCM2.out.1 (fun a ha => by
          obtain ⟨o, ho, rfl⟩ := List.mem_map.1 ha
          exact List.mem_map_of_mem (HCM2.out.sub o ho))
        rw [List.length_map, List.length_map] at h1
        omega
      have HZ2 : Hid (z + (sizeB be.L - sizeB (sweepB be.L)) = freeA (os ++ [((x1, x2), be)])) := Lib.hid (by rw [freeA_snoc, hz.out])
      simp only at hbd
      have hb2 : Below w.heap.size wr w2 := (Below.refl _ _).grown hg2 (by have := HFR.out.size; exact this) (fun j hj => by cases hj; exact Nat.le_refl _)
      have HNR2 : Hid (ONode n fm bm F (swB (os.map (·.1)) B) w2) := Lib.hid (HNR.out.keepH hb2.size (fun k hk hf => hg2.block k hk (fun e => by
        injection e with e
        have := HN.out.foot k (hf.imp (fun h => by
          rcases h with h | h | ⟨q, hq, e2⟩
          · exact .inl h
          · exact .inr (.inl h)
          · have hh : k ∈ (swB (os.map (·.1)) B).map (fun q => q.2.mb) := List.mem_map.2 ⟨q, hq, e2⟩
            rw [swB_mb] at hh
            obtain ⟨q', hq', e3⟩ := List.mem_map.1 hh
            exact .inr (.inr ⟨q', hq', e3⟩)) (fun h => by
          rcases h with h | ⟨q, hq, e2⟩ | h
          · exact .inl h
          · obtain ⟨q0, hq0, rfl⟩ := List.mem_map.1 hq
            refine .inr (.inl ⟨q0, hq0, ?_⟩)
            rw [← e2]
            show q0.2.b = (if q0.1 ∈ _ then (⟨sweepB q0.2.L, q0.2.b, q0.2.mb⟩ : BE) else q0.2).b
            split <;> rfl
          · exact .inr (.inr h)))
        omega)))
      have hob : OBin be.b be.mb be.L w2 := by
        have hmem : (((x1, x2), if (x1, x2) ∈ os.map (·.1) then (⟨sweepB be.L, be.b, be.mb⟩ : BE) else be) : Idn × BE) ∈ swB (os.map (·.1)) B := List.mem_map_of_mem (f := fun q : Idn × BE => (q.1, if q.1 ∈ os.map (·.1) then (⟨sweepB q.2.L, q.2.b, q.2.mb⟩ : BE) else q.2)) hm
        rw [if_neg hnew] at hmem
        exact HNR2.out.bin _ hmem
      have hsz2 := hb2.size
      have HFR2 := Lib.hid (HFR.out.trans (T := fun k => k = w.heap.size) ⟨hg2.os, hg2.tape, hg2.output, hg2.size, fun k hk hn => hg2.block k hk (fun e => hn (by injection e))⟩ (fun i hi => .inr (by omega)))
      have HRG2 := Lib.hid hrg2
      have hmbw : be.mb < w.heap.size := (HN.out.bin _ hm).map.lt
      have hmbm : bm ≠ be.mb := fun e => by
        have := HN.out.nd
        rw [List.nodup_cons, List.nodup_cons] at this
        exact this.2.1 (e ▸ List.mem_map_of_mem (f := fun q : Idn × BE => q.2.mb) hm)
      have hsw := BnSweep_any be.b be.mb be.L 7500 hq.1 (by omega) w2 hob
      rw [← sizeB_sweep] at hsw
      have HSW := Lib.hid hsw
      have HSTP := Lib.hid (fun w' (ho : OBin be.b be.mb (sweepB be.L) w') (hg : w2.grownBy w' (some be.mb)) => HNR2.out.sweep1 HSB.out hm hnew hob ho hg)
      have HSS : Hid (be.mb ∈ B.map (fun q => q.2.mb)) := Lib.hid (List.mem_map_of_mem (f := fun q : Idn × BE => q.2.mb) hm)
      clear hkey hlk hv hat hrg2 hg2 hs2 hz hb2 hx hm hrg hnew hob hsw HNR HFR HCM
      unfold beV at *
      go_wp2_with fail
      refine HSW.out.mono ?_
      rintro e w3 ⟨rfl, ho3, hg3⟩
      have HN3 := Lib.hid (HSTP.out w3 ho3 hg3)
      have HRG3 := Lib.hid (World.ranges.kept HRG2.out hg3 (by intro e; injection e with e; exact hmbm e) (by intro e; injection e with e; omega))
      have HFR3 := Lib.hid (HFR2.out.trans (FrS.of_gb (S := (nodeFoot n fm bm F B).S) hg3 (.inr (.inr (by obtain ⟨q, hq, e⟩ := List.mem_map.1 HSS.out; exact ⟨q, hq, e⟩)))) (fun _ h => .inl h))
      clear ho3 hg3
      go_wp2
      go_roundg cnt2
      case measure => exact hlt
      case rel => exact ⟨_, os ++ [((x1, x2), be)], z + (sizeB be.L - sizeB (sweepB be.L)), HRG3.out, rfl, HZ2, hbd.1, by omega, HCM2, Lib.hid (by rw [List.map_append]; exact HN3.out), HFR3⟩
end Go.Proofs.YtpanoplcamdnkaaGreatDoor
/- A node by what it is and the blocks that it stands on: Drop, Sweep, Names; a node beside two rows of texts. Conditions: as named. -/
namespace Go.Proofs.YtpanoplcamdnkaaGreatDoor
open Go.RowKit Go.Lib Go.Maps Go.WideMaps

theorem Node.dropC (a : Nat → Addr) {n : Nat} {P : PNode} {f : Foot} (hP : NodeOk P) (nm : Bytes) (hn : StrOk nm) (w : World) (h : Node n P f w) (hs : SomeS [4, 10] a w) :
    Calls Tryz.prog 13 #[.pointer (some ⟨n, 0, none⟩), .string (bs nm)] w fun e w' => ∃ r, e = .returned r ∧ ES a r (dropN nm P).2 ∧ NodeTo n f (dropN nm P).1 w w' := by
  obtain ⟨fm, bm, F, B, ho, rfl, rfl⟩ := h.at
  exact (NdDrop_any a n fm bm F B hP nm hn w ho hs).mono fun e w' ⟨r, f', h1, h2, h3, h4, h5⟩ => ⟨r, h1, h2, f', h3, h4, h5⟩
theorem Node.sweepC {n : Nat} {P : PNode} {f : Foot} (hP : NodeOk P) (w : World) (h : Node n P f w) :
    Calls Tryz.prog 15 #[.pointer (some ⟨n, 0, none⟩)] w fun e w' => e = .returned (.int .i64 (sizeN P - sizeN (sweepN P))) ∧ NodeTo n f (sweepN P) w w' := by
  obtain ⟨fm, bm, F, B, ho, rfl, rfl⟩ := h.at
  exact (NdSweep_any n fm bm F B hP w ho).mono fun e w' ⟨f', h1, h3, h4, h5⟩ => ⟨h1, f', h3, h4, h5⟩
theorem Node.namesW {n : Nat} {P : PNode} {f : Foot} (hP : NodeW P) (w : World) (h : Node n P f w) :
    Calls Tryz.prog 17 #[.pointer (some ⟨n, 0, none⟩)] w fun e w' => ∃ v, e = .returned v ∧ w'.ownsRow w.heap.size 9 1 v (namesN P).length ((namesN P).map VT) ∧ Below w.heap.size w w' := by
  obtain ⟨fm, bm, F, B, ho, rfl, rfl⟩ := h.at
  exact NdNames_any n fm bm F B hP w ho
theorem own_ltN {w : World} {base n size g : Nat} {e : TypeId} {v : Value} {xs : List Value} (h : w.ownsRow base e size v n xs) (hg : v.ownBlock = some g) : g < w.heap.size := by
  rcases h.2 with ⟨rfl, _⟩ | ⟨g', cap, cur, rfl, _, hh, _⟩
  · cases hg
  · injection hg with hg
    have hg : g' = g := hg
    subst hg
    exact (Array.getElem?_eq_some_iff.1 hh).1
theorem own_frs {w w' : World} {T : Nat → Prop} {base n size : Nat} {e : TypeId} {v : Value} {xs : List Value} (h : w.ownsRow base e size v n xs) (hg : FrS T w w') (hne : ∀ g, v.ownBlock = some g → ¬ T g) : w'.ownsRow base e size v n xs := by
  refine ⟨h.1, ?_⟩
  rcases h.2 with h1 | ⟨g, cap, cur, hv, hgb, hh, h3⟩
  · exact .inl h1
  · exact .inr ⟨g, cap, cur, hv, hgb, (hg.block g (Array.getElem?_eq_some_iff.1 hh).1 (hne g (by rw [hv]; rfl))).trans hh, h3⟩
/-- a node, and two rows of texts, apart -/
structure KM (base n b7 : Nat) (P : PNode) (f : Foot) (v7 : Value) (m7 : Nat) (A : List Bytes) (v8 : Value) (m8 : Nat) (C : List Bytes) (w0 w : World) : Prop where
  nin : NIn base n P f w0 w
  r7 : w.ownsRow b7 9 1 v7 m7 (A.map VT)
  r8 : w.ownsRow b7 9 1 v8 m8 (C.map VT)
  a7 : ∀ g, v7.ownBlock = some g → ¬ f.S g ∧ ¬ f.R g
  a8 : ∀ g, v8.ownBlock = some g → ¬ f.S g ∧ ¬ f.R g
  ap : ∀ g, v7.ownBlock = some g → v8.ownBlock ≠ some g
  hb : base ≤ b7
  hz : b7 ≤ w.heap.size
section
variable {base n b7 m7 m8 : Nat} {P P' : PNode} {f : Foot} {v7 v8 v' : Value} {A C : List Bytes} {w0 w w' : World}
theorem KM.below (h : KM base n b7 P f v7 m7 A v8 m8 C w0 w) (hb : Below w.heap.size w w') : KM base n b7 P f v7 m7 A v8 m8 C w0 w' :=
  ⟨h.nin.below hb, own_belowI h.r7 hb, own_belowI h.r8 hb, h.a7, h.a8, h.ap, h.hb, Nat.le_trans h.hz hb.size⟩
theorem KM.to (h : KM base n b7 P f v7 m7 A v8 m8 C w0 w) (ht : NodeTo n f P' w w') : ∃ f', KM base n b7 P' f' v7 m7 A v8 m8 C w0 w' := by
  obtain ⟨f', h1, h2, h3⟩ := ht
  have far : ∀ {v : Value} {m : Nat} {xs : List Value}, w.ownsRow b7 9 1 v m xs → (∀ g, v.ownBlock = some g → ¬ f.S g ∧ ¬ f.R g) → ∀ g, v.ownBlock = some g → ¬ f'.S g ∧ ¬ f'.R g := fun {v m xs} ho ha g hg =>
    ⟨fun hs => ((h3 g).1 hs).elim (ha g hg).1 (fun hB => by have := own_ltN ho hg; omega), fun hs => ((h3 g).2 hs).elim (ha g hg).2 (fun hB => by have := own_ltN ho hg; omega)⟩
  exact ⟨f', ⟨h1, fun k hk => ((h3 k).1 hk).elim (h.nin.ge k) (fun hB => Nat.le_trans h.nin.sz hB), h2.below h.nin.bel h.nin.sz h.nin.ge, Nat.le_trans h.nin.sz h2.size⟩,
    own_frs h.r7 h2 (fun g hg => (h.a7 g hg).1), own_frs h.r8 h2 (fun g hg => (h.a8 g hg).1), far h.r7 h.a7, far h.r8 h.a8, h.ap, h.hb, Nat.le_trans h.hz h2.size⟩
theorem KM.swap {bq m : Nat} {vx vy : Value} {X Y : List Bytes} (h : KM base n b7 P f v7 m7 A v8 m8 C w0 w) (hl : f.lt bq) (hbq : base ≤ bq) (hzq : bq ≤ w.heap.size) (hx : w.ownsRow bq 9 1 vx m (X.map VT)) (hy : w.ownsRow bq 9 1 vy m (Y.map VT)) (hap : ∀ g, vx.ownBlock = some g → vy.ownBlock ≠ some g) :
    KM base n bq P f vx m X vy m Y w0 w :=
  ⟨h.nin, hx, hy, fun g e => ⟨fun hs => by have := hl g (.inl hs); have := own_ge hx e; omega, fun hs => by have := hl g (.inr hs); have := own_ge hx e; omega⟩,
    fun g e => ⟨fun hs => by have := hl g (.inl hs); have := own_ge hy e; omega, fun hs => by have := hl g (.inr hs); have := own_ge hy e; omega⟩, hap, hbq, hzq⟩
end
structure Box3 (b : Nat) (x y z : Value) (w : World) : Prop where
  c0 : w.cell? ⟨b, 0, none⟩ = some x
  c1 : w.cell? ⟨b, 1, none⟩ = some y
  c2 : w.cell? ⟨b, 2, none⟩ = some z
theorem Box3.lt {b : Nat} {x y z : Value} {w : World} (h : Box3 b x y z w) : b < w.heap.size := World.block_lt_of_cell? w _ h.c0
theorem Box3.below {b B : Nat} {x y z : Value} {w w' : World} (h : Box3 b x y z w) (hb : Below B w w') (hB : b < B) : Box3 b x y z w' :=
  ⟨(hb.cell (p := ⟨b, 0, none⟩) hB).trans h.c0, (hb.cell (p := ⟨b, 1, none⟩) hB).trans h.c1, (hb.cell (p := ⟨b, 2, none⟩) hB).trans h.c2⟩
theorem Box3.mk' (w : World) (x y z : Value) (t : TypeId) : Box3 w.heap.size x y z (w.alloc (.cells #[x, y, z] t)) :=
  ⟨by rw [World.cell?_alloc_at _ _ _ _ rfl]; rfl, by rw [World.cell?_alloc_at _ _ _ _ rfl]; rfl, by rw [World.cell?_alloc_at _ _ _ _ rfl]; rfl⟩
end Go.Proofs.YtpanoplcamdnkaaGreatDoor

/- Nodes in memory: walks of Names, of. No conditions but bounds. -/
import Derived.Test.YtpanoplcamdnkaaGreatDoorNdB
import Derived.Test.YtpanoplcamdnkaaGreatDoorIterC
import Derived.Test.YtpanoplcamdnkaaGreatDoorHlds
import Derived.Lib.OwnBridge
namespace Go.Proofs.YtpanoplcamdnkaaGreatDoor
open Go.RowKit Go.Lib Go.Maps Go.WideMaps Go.Sort Go.Shelf

theorem before_lessB : ∀ (a b : Bytes), bytesBefore a b = Op.bytesLess a b
  | [], [] => rfl
  | [], _ :: _ => rfl
  | _ :: _, [] => rfl
  | a :: r, b :: s => by
    show (decide (a < b) || (a == b && bytesBefore r s)) = (decide (a < b) || (a == b && Op.bytesLess r s))
    rw [before_lessB r s]
theorem before_ltB (a b : Bytes) : bytesBefore a b = decide (a < b) := (before_lessB a b).trans (bytesLess_eq a b)
/-- names sorted: a permutation of names that rise, sorted, is these -/
theorem sort_names {K ss : List Bytes} (hs : K.Pairwise fun a b => bytesBefore a b = true) (h : ss.Perm K) : ss.mergeSort (fun x y => decide (x ≤ y)) = K := by
  refine (mergeSort_of_perm h).trans (List.mergeSort_of_pairwise ?_)
  refine List.Pairwise.imp (fun {a b} hab => ?_) hs
  rw [before_ltB] at hab
  exact decide_eq_true (List.le_of_lt (of_decide_eq_true hab))
theorem encStr_VT : (encStr : Bytes → Value) = VT := rfl
def namesN (P : PNode) : List Bytes := P.files.map (·.1)
def ofN (P : PNode) (x : Idn) : List Bytes := (P.files.filter fun q => decide (repR q.2 = x)).map (·.1)
theorem NodeOk.names_srt {P : PNode} (h : NodeOk P) : (namesN P).Pairwise fun a b => bytesBefore a b = true := by
  unfold namesN
  rw [List.pairwise_map]
  exact h.fsrt
theorem NodeOk.of_srt {P : PNode} (h : NodeOk P) (x : Idn) : (ofN P x).Pairwise fun a b => bytesBefore a b = true := by
  unfold ofN
  rw [List.pairwise_map]
  exact h.fsrt.filter _
theorem strKeys_alD (F : FL) : strKeys (alD strLit feV F) = namesN (plainNode F []) := by
  unfold namesN plainNode alMap strKeys alD
  simp only [List.map_map]
  rfl
set_option maxHeartbeats 1000000 in
theorem NdNames_any (n fm bm : Nat) (F : FL) (B : BL) (hP : NodeOk (plainNode F B)) (w : World) (h : ONode n fm bm F B w) :
    Calls Tryz.prog 17 #[.pointer (some ⟨n, 0, none⟩)] w fun e w' => ∃ v, e = .returned v ∧ w'.ownsRow w.heap.size 9 1 v (namesN (plainNode F B)).length ((namesN (plainNode F B)).map VT) ∧ Below w.heap.size w w' := by
  refine (callsIn_wide (n := 6)).1 ?_
  have hfK : Fence.wide.fn 62 := trivial
  have hfS : Fence.wide.fn 61 := trivial
  have c0 := h.c0
  have hmap := h.files
  have hfl := hP.flen
  have hfl' : F.length ≤ 30 := by simpa [plainNode, alMap_length] using hfl
  have hsz : Maps.size (alD strLit feV F) = F.length := size_alD _ _ _
  have h1 : Maps.size (alD strLit feV F) ≤ maxLen := by rw [hsz]; unfold maxLen; omega
  have h2 : Maps.size (alD strLit feV F) * 16 ≤ 140737488355328 := by rw [hsz]; omega
  have HNS := Lib.hid hP.names_srt
  have hkk : strKeys (alD strLit feV F) = namesN (plainNode F B) := strKeys_alD F
  unfold AlMap at hmap
  have HKK := Lib.hid hkk
  clear h hP hkk hfl hfl' hsz
  refine callsIn_of_wp Tryz.func17 rfl trivial ?_ rfl
  simp only [Tryz.ntmps17, List.size_toArray, List.length_cons, List.length_nil, Nat.reduceAdd, Nat.reduceSub, Array.replicate_succ, Array.replicate_zero, List.push_toArray, List.append_toArray, List.nil_append, List.cons_append]
  gi_wp2_with (first
    | (gi_at_call 62; refine (Tryz.maps_Keys_62 _ _).mono ?_; rintro e w' ⟨rfl, rfl⟩)
    | (gi_at_call 61; refine (Tryz.slices_Sorted_keys_61_62 fm F.length (alD strLit feV F) rawE w hmap h1 h2).mono ?_; rintro e w' ⟨v, ss, rfl, hS, hrow, hnil, hb⟩))
  go_ret
  rw [HKK.out] at hS
  rw [sort_names HNS.out hS, encStr_VT, hS.length_eq] at hrow
  exact ⟨v, rfl, ownsRow_base_a hrow (by simp), ((Below.refl _ w).alloc (Nat.le_refl _) _).trans (hb.mono (by simp))⟩
/-! ### of a rep -/
theorem SSort_any (base : Nat) (v : Value) (K ss : List Bytes) (hs : K.Pairwise fun a b => bytesBefore a b = true) (hp : ss.Perm K) (hl : ss.length ≤ 1000000) (w0 w : World) (hB : Below base w0 w) (hbase : base ≤ w.heap.size) (ho : w.ownsRow base 9 1 v ss.length (ss.map VT)) :
    Calls Tryz.prog 110 #[v] w fun e w' => e = .returned (.tuple #[]) ∧ w'.ownsRow base 9 1 v K.length (K.map VT) ∧ Below base w0 w' := by
  have hlen : ss.length = K.length := hp.length_eq
  by_cases hv : v = .slice none 0 0
  · subst hv
    have h0 : ss.length = 0 := by
      rcases ho.2 with ⟨_, h⟩ | ⟨g, cap, cur, e, _⟩
      · exact h
      · cases e
    have hk : K = [] := List.length_eq_zero_iff.1 (by omega)
    subst hk
    exact (Tryz.slices_Sort_string_none none 0 w).mono fun e w' ⟨he, hw⟩ => ⟨he, by rw [hw]; exact World.ownsRow_nil _ _ _ _, by rw [hw]; exact hB⟩
  · obtain ⟨g, cap, rfl, hbg, hgl, hnc, hcm, hz, hH⟩ := holds_of_ownsRow (enc := encStr) ho hv
    refine (Tryz.slices_Sort_string g 0 cap ss w hH hgl (by omega)).mono ?_
    rintro e w' ⟨rfl, q, os, rfl⟩
    rw [sort_names hs hp]
    have h1 := ownsRow_putRow (enc := encStr) (q := q) (k := ss.length) (ys := K) ho hlen.symm (Nat.le_refl _)
    rw [List.take_of_length_le (by omega)] at h1
    have h2 := own_belowI h1 (Lib.below_grow _ _ (Nat.le_refl _) 0 os)
    refine ⟨rfl, by rw [← hlen]; exact h2, ?_⟩
    have hbp := Lib.below_putRow (enc := encStr) (q := q) (d := K.toArray) hB hbg
    exact hbp.trans ((Lib.below_grow _ _ (Nat.le_refl _) 0 os).mono (Nat.le_trans hbase (by simp [putRow, mapBlock, Sort.ahead])))
theorem own_gbN {w w' : World} {base n size : Nat} {r : Option Nat} {e : TypeId} {v : Value} {xs : List Value} (h : w.ownsRow base e size v n xs) (hg : w.grownBy w' r) (hne : ∀ g, v.ownBlock = some g → r ≠ some g) : w'.ownsRow base e size v n xs := by
  refine ⟨h.1, ?_⟩
  rcases h.2 with h1 | ⟨g, cap, cur, hv, hgb, hh, h3⟩
  · exact .inl h1
  · exact .inr ⟨g, cap, cur, hv, hgb, (hg.block g (Array.getElem?_eq_some_iff.1 hh).1 (fun e => hne g (by rw [hv]; rfl) e.symm)).trans hh, h3⟩
theorem gb_box2' {w w' : World} {d : Nat} {x y : Value} {r : Option Nat} (h : w.grownBy w' r) (hne : some d ≠ r) (hx : Box2 d x y w) : Box2 d x y w' :=
  ⟨(h.cell_far ⟨d, 0, none⟩ hx.lt hne).trans hx.c0, (h.cell_far ⟨d, 1, none⟩ hx.lt hne).trans hx.c1, (h.frozen_far ⟨d, 0, none⟩ hx.lt hne).trans hx.f0, (h.frozen_far ⟨d, 1, none⟩ hx.lt hne).trans hx.f1⟩
def cameN (x : Idn) (os : FL) : List Bytes := (os.filter fun q => decide (repR q.2.r = x)).map (·.1)
theorem cameN_yes {x : Idn} {os : FL} {o : Bytes × FE} (h : repR o.2.r = x) : cameN x (os ++ [o]) = cameN x os ++ [o.1] := by
  unfold cameN
  rw [List.filter_append, List.map_append, List.filter_cons, if_pos (by simp [h])]; rfl
theorem cameN_no {x : Idn} {os : FL} {o : Bytes × FE} (h : repR o.2.r ≠ x) : cameN x (os ++ [o]) = cameN x os := by
  unfold cameN
  rw [List.filter_append, List.map_append, List.filter_cons, if_neg (by simp [h])]; simp
theorem cameN_len (x : Idn) (os : FL) : (cameN x os).length ≤ os.length := by
  unfold cameN
  rw [List.length_map]
  exact List.length_filter_le _ _
theorem cameN_of {x : Idn} {os F : FL} (h : os.Perm F) (B : BL) : (cameN x os).Perm (ofN (plainNode F B) x) := by
  have e : ofN (plainNode F B) x = cameN x F := by
    unfold ofN plainNode alMap cameN
    rw [List.filter_map, List.map_map]
    rfl
  rw [e]
  exact (h.filter _).map _
theorem AlCame.len {K V : Type} [DecidableEq K] {lit : K → Lit} {lt : K → K → Bool} {ok okw : K → Prop} (E : KeyEmb lit lt ok okw) {L : List (K × V)} {left : Lit → Bool} {os : List (K × V)} (h : AlCame lit L left os) (hs : AlSrt lt L) : os.length ≤ L.length := by
  have h1 : (os.map (·.1)).length ≤ (L.map (·.1)).length := nodup_len h.1 (fun a ha => by
    obtain ⟨o, ho, rfl⟩ := List.mem_map.1 ha
    exact List.mem_map_of_mem (h.sub o ho))
  simpa using h1
set_option maxRecDepth 100000 in
set_option maxHeartbeats 4000000 in
theorem NdOf_gen (n fm bm : Nat) (F : FL) (B : BL) (hsf : AlSrt bytesBefore F) (hkf : ∀ p ∈ F, StrOk p.1) (hfl : F.length ≤ 30) (hif : ∀ q ∈ F, q.2.r.ids.length ≤ 250) (x : Idn) (w : World) (h : ONode n fm bm F B w) :
    Calls Tryz.prog 58 #[.pointer (some ⟨n, 0, none⟩), idV x] w fun e w' => ∃ v, e = .returned v ∧ w'.ownsRow w.heap.size 9 1 v (ofN (plainNode F B) x).length ((ofN (plainNode F B) x).map VT) ∧ Below w.heap.size w w' := by
  obtain ⟨i0, hi, hz0, hz1, hz2⟩ := info_parts info_stringG
  have hb0 : Below w.heap.size w (w.alloc (.cells #[.int .u32 (x.1 : Int), .int .i64 x.2] 47)) := (Below.refl _ w).alloc (Nat.le_refl _) _
  have HX0 := Lib.hid (Box2.mk' w (.int .u32 (x.1 : Int)) (.int .i64 x.2) 47)
  have HB0 := Lib.hid hb0
  have HN := Lib.hid (h.below hb0)
  have HIF := Lib.hid hif
  have HKF := Lib.hid hkf
  have HSF := Lib.hid hsf
  have HOS : Hid ((ofN (plainNode F B) x).Pairwise fun a b => bytesBefore a b = true) := Lib.hid (by
    unfold ofN plainNode
    rw [List.pairwise_map]
    exact List.Pairwise.filter _ (alMap_srt.2 hsf))
  have hz0' : (w.alloc (.cells #[.int .u32 (x.1 : Int), .int .i64 x.2] 47)).heap.size = w.heap.size + 1 := by simp
  have c0 := (h.below hb0).c0
  clear h hb0 hif hkf hsf
  go_enter Tryz.func58, Tryz.ntmps58
  go_wp2_with (first | (at_range; refine wpList_range_own _ rfl _ 102 rfl 9 65 lawStr Tryz.underlying102 rawE fm F.length (alD strLit feV F) rfl HN.out.files ?_; intro w0 hrg0 hg0 hs0) | fail)
  generalize w.alloc (.cells #[.int .u32 (x.1 : Int), .int .i64 x.2] 47) = w1 at *
  have hmlt := HN.out.files.blt
  go_frame
  have hb1 : Below w1.heap.size w1 w0 := (Below.refl _ _).grown hg0 (Nat.le_refl _) (fun j hj => by cases hj)
  have HRG0 := Lib.hid hrg0
  have HN0 := Lib.hid (HN.out.below hb1)
  have HX1 := Lib.hid (HX0.out.below hb1 HX0.out.lt)
  have HB1 := Lib.hid (HB0.out.trans (hb1.mono HB0.out.size))
  have HB01 := Lib.hid hb1
  have hw01 := hb1.size
  have hrlt := hrg0.lt
  have HZ0 := Lib.hid hz0'
  clear hrg0 hg0 hs0 hb1 c0 hz0'
  go_loopg [5] (Maps.size (alD strLit feV F)) (fun gh v5 wr => ∃ (left : Lit → Bool) (os : FL), wr.ranges Tryz.prog 9 rawE fm w1.heap.size F.length (alD strLit feV F) left gh ∧ Hid (AlCame strLit F left os) ∧ Hid (wr.ownsRow w0.heap.size 9 1 v5 (cameN x os).length ((cameN x os).map VT)) ∧ Hid (Below w1.heap.size w1 wr) ∧ w0.heap.size ≤ wr.heap.size ∧ Hid (Box2 w.heap.size (.int .u32 (x.1 : Int)) (.int .i64 x.2) wr))
  case atStart => exact ⟨_, [], HRG0.out, Lib.hid (AlCame.start strEmb feV HKF.out), Lib.hid (World.ownsRow_nil _ _ _ _), HB01, Nat.le_refl _, HX1⟩
  case round =>
    obtain ⟨left, os, hrg, hcm, HRW, HBR, hzr, HXR⟩ := hrel
    have hosl : os.length ≤ 30 := by have := hcm.out.len strEmb HSF.out; omega
    have hcl : (cameN x os).length ≤ 30 := Nat.le_trans (cameN_len x os) hosl
    have HSTP := Lib.hid (fun o ho hl => hcm.out.step (o := o) strEmb HSF.out HKF.out ho hl)
    go_wp2_with (first | (at_next; refine wpList_next_ranges _ rfl _ rfl 9 lawStr rawE strV id strRd.mk_inv rawE_inv fm w1.heap.size F.length (alD strLit feV F) left _ rfl hrg ?_ ?_) | fail)
    · intro _ hl0
      have HPM := Lib.hid (cameN_of (x := x) (hcm.out.perm strEmb HSF.out hl0) B)
      have hlen : (cameN x os).length ≤ 1000000 := by omega
      have HST := Lib.hid (SSort_any w0.heap.size u5 (ofN (plainNode F B) x) (cameN x os) HOS.out HPM.out hlen wr wr (Below.refl _ _) hzr HRW.out)
      clear hl0 hrg hcm HSTP
      go_wp2_with fail
      refine HST.out.mono ?_
      rintro e w2 ⟨rfl, ho2, hb2⟩
      have HO2 := Lib.hid ho2
      have HB2 := Lib.hid (HB0.out.trans ((HBR.out.trans (hb2.mono hw01)).mono HB0.out.size))
      clear ho2 hb2
      go_wp2
      go_ret
      exact ⟨_, rfl, ownsRow_base_a HO2.out HB1.out.size, HB2.out⟩
    · intro nm c kl yd yp w2 cnt2 hkey hlk hv hat hrg2 hlt hg2 hs2 hen
      obtain ⟨rfl, hx, fe, hm, rfl⟩ := al_came strRd HKF.out hkey hv hat
      have HB2 := Lib.hid (HBR.out.grown hg2 (Nat.le_trans hw01 hzr) (fun j hj => by cases hj; omega))
      have HCM := Lib.hid (HSTP.out (nm, fe) hm hlk)
      have HRW2 := Lib.hid (own_gbN HRW.out hg2 (fun g e1 e2 => by injection e2 with e2; have := own_ge HRW.out e1; omega))
      have hsz2 : w0.heap.size ≤ w2.heap.size := Nat.le_trans hzr hg2.size
      have HX2 := Lib.hid (gb_box2 hg2 (by have := HZ0.out; omega) HXR.out)
      have HN2 := Lib.hid (HN.out.below HB2.out)
      obtain ⟨SA, sc, hsl⟩ : ∃ A c, fe.sl = .slice A fe.r.ids.length c := by obtain ⟨A, c, h, _⟩ := HN2.out.rd _ hm; exact ⟨A, c, h⟩
      have hrd := HN2.out.rd _ hm
      have hil : fe.r.ids.length ≤ 250 := HIF.out _ hm
      simp only at hrd
      unfold feV at hen hrg2
      rw [hsl] at hrd hen
      have hb3 : Below w2.heap.size w2 (w2.alloc (.cells #[VT fe.r.name, .int .i64 fe.r.len, .int .u32 (fe.r.print : Int), .slice SA fe.r.ids.length sc] 65)) := (Below.refl _ _).alloc (Nat.le_refl _) _
      have HY3 := Lib.hid (Box4.mk' w2 (VT fe.r.name) (.int .i64 fe.r.len) (.int .u32 (fe.r.print : Int)) (.slice SA fe.r.ids.length sc) 65)
      have HRD3 := Lib.hid ((hrd.keep hb3 (Nat.le_refl _)).more hb3.size)
      have HX3 := Lib.hid (HX2.out.below hb3 HX2.out.lt)
      have HB3 := Lib.hid (HB2.out.trans (hb3.mono (Nat.le_trans hw01 hsz2)))
      have HRW3 := Lib.hid (own_belowI HRW2.out hb3)
      have HRG3 := Lib.hid (World.ranges.kept hrg2 (gb_of_below (r := none) hb3) (by simp) (by simp))
      have hsz3 : w0.heap.size ≤ (w2.alloc (.cells #[VT fe.r.name, .int .i64 fe.r.len, .int .u32 (fe.r.print : Int), .slice SA fe.r.ids.length sc] 65)).heap.size := Nat.le_trans hsz2 hb3.size
      have HKN : Hid (nm.length ≤ maxLen) := Lib.hid hx
      clear hkey hlk hv hat hrg2 hg2 hs2 hx hm hrg hcm hsl hrd hb3 HSTP HN2 HX2 HRW2 HRW HBR HXR HB2
      unfold feV
      go_wp2
      generalize w2.alloc (.cells #[VT fe.r.name, .int .i64 fe.r.len, .int .u32 (fe.r.print : Int), .slice SA fe.r.ids.length sc] 65) = w3 at *
      have hS0 : Below w3.heap.size w3 w3.drew := (Below.refl _ _).drew
      refine region_S (fun w' => Below w3.heap.size w3 w') 3 (by kernel_rfl) (by kernel_rfl) ?_
      refine take_S 0 rfl (by kernel_rfl) (by kernel_rfl) hS0 (fun w' hS => by obtain ⟨e0, e1, e2, e3, _⟩ := HY3.out.below hS HY3.out.lt; go_simp; rfl) ?_
      refine take_S 2 rfl (by kernel_rfl) (by kernel_rfl) hS0 (fun w' hS => by have A0 := (HX3.out.below hS HX3.out.lt).c0; have A1 := (HX3.out.below hS HX3.out.lt).c1; go_simp; rfl) ?_
      refine carry_S 1 rfl (by kernel_rfl) (by decide) (by kernel_rfl) (fun K hK => ?_)
      go_simp
      refine (RcRep_any (.agg #[VT fe.r.name, .int .i64 fe.r.len, .int .u32 (fe.r.print : Int), .slice SA fe.r.ids.length sc]) fe.r (by omega) _ ⟨_, rfl, (HRD3.out.keep hS0 (Nat.le_refl _)).more hS0.size⟩).mono ?_
      rintro e w4 ⟨rfl, hbw4⟩
      have hS1 : Below w3.heap.size w3 w4 := hS0.trans (hbw4.mono hS0.size)
      refine hK _ _ hS1 (forced_S (by kernel_rfl) ?_)
      clear hK K
      try simp only [Act.put, List.getElem_toArray, List.getElem_cons_succ, List.getElem_cons_zero, List.setIfInBounds_toArray, List.set_cons_zero, List.set_cons_succ]
      try simp only [Act.put, List.getElem_toArray, List.getElem_cons_succ, List.getElem_cons_zero, List.setIfInBounds_toArray, List.set_cons_zero, List.set_cons_succ]
      simp only [List.drop_succ_cons, List.drop_zero]
      have HB4 := Lib.hid (HB3.out.trans (hS1.mono (Nat.le_trans hw01 hsz3)))
      have HRW4 := Lib.hid (own_belowI HRW3.out hS1)
      have HRG4 := Lib.hid (World.ranges.kept HRG3.out (gb_of_below (r := none) hS1) (by simp) (by simp))
      have HX4 := Lib.hid (HX3.out.below hS1 HX3.out.lt)
      have hsz4 : w0.heap.size ≤ w4.heap.size := Nat.le_trans hsz3 hS1.size
      clear hS0 hS1 hbw4 HB3 HRW3 HRG3 HX3 HY3 HRD3 hen
      by_cases hr : repR fe.r = x
      · obtain ⟨t1, t2⟩ := idq_eqs (show repOf fe.r.ids = x from hr)
        have HC2 : Hid (cameN x (os ++ [(nm, fe)]) = cameN x os ++ [nm]) := Lib.hid (cameN_yes (o := (nm, fe)) hr)
        have hnl : nm.length ≤ maxLen := HKN.out
        clear hr
        obtain ⟨A5, c5, hv5⟩ := own_formI HRW4.out
        subst hv5
        go_wp2_with (at_builtin; refine wpList_append_own _ rfl _ _ 27 rfl w0.heap.size 9 i0 (.string ByteArray.empty) 1 16 Tryz.underlying27 hi hz0 hz1 hz2 rfl (by decide) _ _ _ rfl (HRW4.out.alloc _) ⟨w4.heap.size, 0, none⟩ 1 1 [.string (bs nm)] rfl rfl (cell_oneG _ _ _) (by simp [Value.oneCell']) (by unfold maxLen; omega) (by omega) (by simp; omega) ?_; intro v6 w6 ho6 hg6 _)
        have HBA : Hid (Below w4.heap.size w4 (w4.alloc (.cells #[.string (bs nm)] 9))) := Lib.hid ((Below.refl _ _).alloc (Nat.le_refl _) _)
        have hrwa := own_belowI HRW4.out HBA.out
        have hz4 : w1.heap.size ≤ w4.heap.size := Nat.le_trans hw01 hsz4
        have HB6 := Lib.hid ((HB4.out.trans (HBA.out.mono hz4)).grown hg6 (Nat.le_trans hz4 HBA.out.size) (fun j hj => Nat.le_trans hw01 (own_ge hrwa hj)))
        have HRG6 := Lib.hid (World.ranges.kept (World.ranges.kept HRG4.out (gb_of_below (r := none) HBA.out) (by simp) (by simp)) hg6 (fun e => by have := own_ge hrwa e.symm; omega) (fun e => by have := own_ge hrwa e.symm; omega))
        have HX6 := Lib.hid (gb_box2' hg6 (fun e => by have := own_ge hrwa e.symm; have := HX0.out.lt; omega) (HX4.out.below HBA.out HX4.out.lt))
        have hsz6 : w0.heap.size ≤ w6.heap.size := Nat.le_trans (Nat.le_trans hsz4 HBA.out.size) hg6.size
        have HRW6 : Hid (w6.ownsRow w0.heap.size 9 1 v6 (cameN x (os ++ [(nm, fe)])).length ((cameN x (os ++ [(nm, fe)])).map VT)) := Lib.hid (by rw [HC2.out, List.length_append, List.map_append]; exact ho6)
        clear hrwa ho6 hg6 HBA
        go_roundg cnt2
        case measure => exact hlt
        case rel => exact ⟨_, os ++ [(nm, fe)], HRG6.out, HCM, HRW6, HB6, hsz6, HX6⟩
      · have HC2 : Hid (cameN x (os ++ [(nm, fe)]) = cameN x os) := Lib.hid (cameN_no (o := (nm, fe)) hr)
        have HRW6 : Hid (w4.ownsRow w0.heap.size 9 1 u5 (cameN x (os ++ [(nm, fe)])).length ((cameN x (os ++ [(nm, fe)])).map VT)) := Lib.hid (by rw [HC2.out]; exact HRW4.out)
        rcases idq_ne (show ¬ repOf fe.r.ids = x from hr) with t1 | ⟨t1, t2⟩
        · clear hr
          go_wp2
          go_roundg cnt2
          case measure => exact hlt
          case rel => exact ⟨_, os ++ [(nm, fe)], HRG4.out, HCM, HRW6, HB4, hsz4, HX4⟩
        · clear hr
          go_wp2
          go_roundg cnt2
          case measure => exact hlt
          case rel => exact ⟨_, os ++ [(nm, fe)], HRG4.out, HCM, HRW6, HB4, hsz4, HX4⟩
theorem NdOf_any (n fm bm : Nat) (F : FL) (B : BL) (hP : NodeOk (plainNode F B)) (x : Idn) (w : World) (h : ONode n fm bm F B w) :
    Calls Tryz.prog 58 #[.pointer (some ⟨n, 0, none⟩), idV x] w fun e w' => ∃ v, e = .returned v ∧ w'.ownsRow w.heap.size 9 1 v (ofN (plainNode F B) x).length ((ofN (plainNode F B) x).map VT) ∧ Below w.heap.size w w' :=
  NdOf_gen n fm bm F B (ONode.srtF hP) (h.keysF hP) (by simpa [plainNode, alMap_length] using hP.flen) (fun q hq => hP.ids (q.1, q.2.r) (List.mem_map_of_mem (f := fun p : Bytes × FE => (p.1, p.2.r)) hq)) x w h
end Go.Proofs.YtpanoplcamdnkaaGreatDoor

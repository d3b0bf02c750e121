/- Walk of the reference's JoinNodes: a node that may join. No conditions but bounds. -/
import Derived.Test.YtpacalklcdlhoaaGreatDoorRefJ
namespace Go.Proofs.YtpacalklcdlhoaaGreatDoor
open Go.RowKit Go.Lib

set_option maxRecDepth 100000 in
set_option maxHeartbeats 4000000 in
theorem RJoinNodes_ok (v : Value) (l : List Int) (n : Int) (w : World) (hv : Rd w w.heap.size v (l.map VI')) (hl : l.length ≤ 2 ^ 40) (hok : (joinErr l n).1 = 0) :
    Calls Tryz.prog 14 #[v, .int .i64 n] w (NodesPost w (joinRes l n) (joinErr l n)) := by
  obtain ⟨i0, hi, hz0, hz1, hz2⟩ := info_parts info_int'
  have hb0 : Below w.heap.size w (w.alloc (.cells #[.int .i64 0, .int .i64 0] 32)) := (Below.refl _ w).alloc (Nat.le_refl _) _
  have hrs : Box2 w.heap.size (.int .i64 0) (.int .i64 0) (w.alloc (.cells #[.int .i64 0, .int .i64 0] 32)) := Box2.mk' w _ _ _
  have HV := Lib.hid ((hv.below hb0).more hb0.size)
  have HVW := Lib.hid hv
  have HR := Lib.hid (joinRes_ok hok)
  have hz : (nodesErr 0 none l).1 = 0 := by
    refine Classical.byContradiction fun h => h ?_
    rw [joinErr_a h] at hok; exact hok
  have hck : nodesErr 0 none l = (0, -1) := nodesErr_place l 0 none hz
  have HK := Lib.hid hck
  obtain ⟨hno, hni⟩ := joinErr_zero hok
  have HJ := Lib.hid (joinErr_d hz hno hni)
  have HIN : Hid (decide (n ∈ l) = false) := Lib.hid (decide_eq_false hni)
  obtain ⟨n1, n6⟩ := hno
  obtain ⟨P0, hple, hplt, hpge, hjo⟩ : ∃ P0, P0 ≤ l.length ∧ (∀ (k : Nat) (_ : k < P0) (h : k < l.length), l[k] < n) ∧ (∀ h : P0 < l.length, ¬ l[P0] < n) ∧ Hid (joinOf l n = l.take P0 ++ n :: l.drop P0) :=
    ⟨placeOf l n, placeOf_le l n, fun k h _ => place_lt l n k h, place_ge l n, Lib.hid rfl⟩
  have HPL := Lib.hid hplt
  have HPG := Lib.hid hpge
  obtain ⟨A, c, rfl, hlc, hx⟩ := hv
  rw [List.length_map] at *
  have HX := Lib.hid hx
  clear hz hck hok hplt hpge hni hx
  go_enter Tryz.func14, Tryz.ntmps14
  go_wp2_with fail
  generalize w.alloc (.cells #[.int .i64 0, .int .i64 0] 32) = w0 at *
  refine (RnodesFault_any _ l w0 HV.out hl).mono ?_
  rintro e w1 ⟨rfl, hb1⟩
  rw [HK.out]
  have hrs2 := (hrs.below hb1 hrs.lt).alloc (.cells #[.int .i64 0, .int .i64 (-1)] 32)
  have hb2 := (hb0.trans (hb1.mono hb0.size)).alloc (Nat.le_trans hb0.size hb1.size) (.cells #[.int .i64 0, .int .i64 (-1)] 32)
  have hfb := Box2.mk' w1 (.int .i64 0) (.int .i64 (-1)) 32
  have HFB := Lib.hid hfb
  obtain ⟨e0, e1, _, _⟩ := hfb
  have HRS := Lib.hid hrs2
  have HB2 := Lib.hid hb2
  have hzz : w1.heap.size < (w1.alloc (.cells #[.int .i64 0, .int .i64 (-1)] 32)).heap.size := by simp
  clear hrs hrs2 hb0 hb1 hb2
  go_wp2_with fail
  generalize w1.alloc (.cells #[.int .i64 0, .int .i64 (-1)] 32) = w2 at *
  have HV2 := Lib.hid (HVW.out.below HB2.out)
  refine (InInts_any n _ l w.heap.size w2 HV2.out (by omega)).mono ?_
  rintro e w3 ⟨rfl, rfl⟩
  rw [HIN.out]
  go_wp2
  go_loopg [8] P0 (fun gh vi wr => ∃ k : Nat, vi = .int .i64 k ∧ k ≤ P0 ∧ gh = P0 - k ∧ w2 = wr)
  case atStart => exact ⟨0, rfl, Nat.zero_le _, rfl, rfl⟩
  case round =>
    obtain ⟨k, rfl, hk, hgm, rfl⟩ := hrel
    by_cases hkp : k < P0
    · have hkl : k < l.length := by omega
      have hlt := HPL.out k hkp hkl
      obtain ⟨g, o, rfl, hg, hc⟩ := HX.out (by intro h; rw [List.map_eq_nil_iff] at h; subst h; simp at hkl)
      have hck := (HB2.out.cell (p := ⟨g, o + k, none⟩) hg).trans (hc k (.int .i64 l[k]) (by simp [hkl]))
      generalize l[k] = m at *
      clear hc
      go_wp2
      go_roundg (P0 - (k + 1))
      case measure => omega
      case rel => exact ⟨k + 1, by go_num, hkp, rfl, rfl⟩
    · obtain rfl : k = P0 := by omega
      have HT := Lib.hid (HV2.out.take k (by omega))
      have HD := Lib.hid (HV2.out.cutA k (by omega))
      have hlen : ((l.map VI').take k).length = k := by rw [List.length_take, List.length_map]; omega
      have hlen2 : ((l.map VI').drop k).length = l.length - k := by rw [List.length_drop, List.length_map]
      have HL1 := Lib.hid hlen
      have HL2 := Lib.hid hlen2
      clear hlen hlen2
      have vt : ∀ u ∈ (l.map VI').take k, u.oneCell' = true := fun u hu => vi_one l u (List.mem_of_mem_take hu)
      have vd : ∀ u ∈ (l.map VI').drop k, u.oneCell' = true := fun u hu => vi_one l u (List.mem_of_mem_drop hu)
      have HVT := Lib.hid vt
      have HVD := Lib.hid vd
      clear vt vd
      have HE : Hid (([] : List Value) ++ (l.map VI').take k ++ [.int .i64 n] ++ (l.map VI').drop k = (l.take k ++ n :: l.drop k).map VI') := Lib.hid (by simp [VI', List.map_take, List.map_drop])
      have HJO := hjo
      by_cases hkl : k < l.length
      · have hnlt := HPG.out hkl
        obtain ⟨g, o, rfl, hg, hc⟩ := HX.out (by intro h; rw [List.map_eq_nil_iff] at h; subst h; simp at hkl)
        have hck := (HB2.out.cell (p := ⟨g, o + k, none⟩) hg).trans (hc k (.int .i64 l[k]) (by simp [hkl]))
        generalize l[k] = m at *
        have HC := Lib.hid (HV2.out.cut k (by omega))
        clear hc
        go_wp2_with (first
          | (at_builtin; refine wpList_append_rd rfl (.tmp 42) (.tmp 45) 22 rfl w2.heap.size 3 i0 (.int .i64 0) 8 Tryz.underlying22 hi hz0 hz1 hz2 rfl _ 0 [] rfl (World.ownsRow_nil _ _ _ _) w.heap.size _ ((l.map VI').take k) rfl HT.out HVT.out (by rw [HL1.out]; unfold maxLen; omega) (by rw [HL1.out]; omega) (Nat.le_refl _) ?_; intro v4 w4 ho4 hg4; rw [HL1.out] at ho4)
          | (at_builtin; refine wpList_append_own _ rfl (.tmp 47) (.tmp 49) 22 rfl w2.heap.size 3 i0 (.int .i64 0) 1 8 Tryz.underlying22 hi hz0 hz1 hz2 rfl (by decide) _ _ _ rfl (ho4.alloc _) ⟨w4.heap.size, 0, none⟩ 1 1 [.int .i64 n] rfl rfl (cell_one_new _ _ _) (by simp [Value.oneCell']) (by unfold maxLen; omega) (by omega) (by have := hg4.size; simp; omega) ?_; intro v5 w5 ho5 hg5 _))
        have hB4 : Below w2.heap.size w2 w4 := below_grown (Below.refl _ _) (Nat.le_refl _) (World.ownsRow_nil _ _ 3 1) hg4
        have hB5 : Below w2.heap.size w2 w5 := below_append hB4 hB4.size ho4 hg5
        have HB9 := Lib.hid HB2.out
        have hS0 : Below w2.heap.size w2 w5.drew := hB5.drew
        have HC5 := Lib.hid (HC.out.below (hS0.mono HB9.out.size))
        have HO5 := Lib.hid ho5.drew
        obtain ⟨x0, x1, x2, x3⟩ := HRS.out.below hB5 HRS.out.lt
        obtain ⟨y0, y1, _, _⟩ := HFB.out.below hB5 HFB.out.lt
        clear ho4 hg4 ho5 hg5 hB4
        go_region_law (refine step_append_rd rfl (.tmp 51) (.tmp 54) 22 rfl w2.heap.size 3 i0 (.int .i64 0) 8 Tryz.underlying22 hi hz0 hz1 hz2 rfl _ _ _ rfl HO5.out w.heap.size _ ((l.map VI').drop k) rfl HC5.out HVD.out (by rw [HL2.out]; unfold maxLen; omega) (by rw [HL2.out]; omega) hS0.size ?_; intro v6 w6 ho6 hg6; have hS6 : Below w2.heap.size w2 w6 := below_grown hS0 hS0.size HO5.out hg6; obtain ⟨d0, d1, f0, f1⟩ := HRS.out.below hS6 HRS.out.lt; obtain ⟨g0, g1, _, _⟩ := HFB.out.below hS6 HFB.out.lt)
        all_goals
          obtain ⟨t0, t1, t2⟩ := (HRS.out.below hS6 HRS.out.lt).rd (.int .i64 0) (.int .i64 (-1))
          have hb7 := below_set2 (HB9.out.trans (hS6.mono HB9.out.size)) (b := w.heap.size) (Nat.le_refl _) (.int .i64 0) (.int .i64 (-1))
          have hr6 := ((((RdF.own ho6).set ⟨w.heap.size, 0, none⟩ HRS.out.lt (.int .i64 0)).set ⟨w.heap.size, 1, none⟩ HRS.out.lt (.int .i64 (-1)))).less HB9.out.size
          rw [HE.out] at hr6
          have HR6 := Lib.hid hr6
          clear hr6 ho6 hg6
          go_wp2
          all_goals refine bodyPost_ret (v := .tuple #[v6, .agg #[.int .i64 0, .int .i64 (-1)]]) (by simp [results, Tryz.results14, go_sem, t0, t1, t2]) rfl ?_
          all_goals exact ⟨_, by rw [HJ.out], by rw [HR.out, HJO.out]; exact HR6.out, hb7⟩
      · obtain rfl : k = l.length := by omega
        go_wp2_with (first
          | (at_builtin; refine wpList_append_rd rfl (.tmp 42) (.tmp 45) 22 rfl w2.heap.size 3 i0 (.int .i64 0) 8 Tryz.underlying22 hi hz0 hz1 hz2 rfl _ 0 [] rfl (World.ownsRow_nil _ _ _ _) w.heap.size _ ((l.map VI').take l.length) rfl HT.out HVT.out (by rw [HL1.out]; unfold maxLen; omega) (by rw [HL1.out]; omega) (Nat.le_refl _) ?_; intro v4 w4 ho4 hg4; rw [HL1.out] at ho4)
          | (at_builtin; refine wpList_append_own _ rfl (.tmp 47) (.tmp 49) 22 rfl w2.heap.size 3 i0 (.int .i64 0) 1 8 Tryz.underlying22 hi hz0 hz1 hz2 rfl (by decide) _ _ _ rfl (ho4.alloc _) ⟨w4.heap.size, 0, none⟩ 1 1 [.int .i64 n] rfl rfl (cell_one_new _ _ _) (by simp [Value.oneCell']) (by unfold maxLen; omega) (by omega) (by have := hg4.size; simp; omega) ?_; intro v5 w5 ho5 hg5 _))
        have hB4 : Below w2.heap.size w2 w4 := below_grown (Below.refl _ _) (Nat.le_refl _) (World.ownsRow_nil _ _ 3 1) hg4
        have hB5 : Below w2.heap.size w2 w5 := below_append hB4 hB4.size ho4 hg5
        have HB9 := Lib.hid HB2.out
        have hS0 : Below w2.heap.size w2 w5.drew := hB5.drew
        have HC5 : Hid (∀ (B : Nat) (A : Option Addr) (c : Nat) (w : World), Rd w B (.slice A 0 c) ((l.map VI').drop l.length)) := Lib.hid fun B A c w => by rw [List.drop_eq_nil_of_le (by simp)]; exact ⟨A, c, rfl, Nat.zero_le _, fun h => absurd rfl h⟩
        have HO5 := Lib.hid ho5.drew
        obtain ⟨x0, x1, x2, x3⟩ := HRS.out.below hB5 HRS.out.lt
        obtain ⟨y0, y1, _, _⟩ := HFB.out.below hB5 HFB.out.lt
        clear ho4 hg4 ho5 hg5 hB4
        go_region_law (refine step_append_rd rfl (.tmp 51) (.tmp 54) 22 rfl w2.heap.size 3 i0 (.int .i64 0) 8 Tryz.underlying22 hi hz0 hz1 hz2 rfl _ _ _ rfl HO5.out w.heap.size _ ((l.map VI').drop l.length) rfl (HC5.out _ _ _ _) HVD.out (by rw [HL2.out]; unfold maxLen; omega) (by rw [HL2.out]; omega) hS0.size ?_; intro v6 w6 ho6 hg6; have hS6 : Below w2.heap.size w2 w6 := below_grown hS0 hS0.size HO5.out hg6; obtain ⟨d0, d1, f0, f1⟩ := HRS.out.below hS6 HRS.out.lt; obtain ⟨g0, g1, _, _⟩ := HFB.out.below hS6 HFB.out.lt)
        all_goals
          obtain ⟨t0, t1, t2⟩ := (HRS.out.below hS6 HRS.out.lt).rd (.int .i64 0) (.int .i64 (-1))
          have hb7 := below_set2 (HB9.out.trans (hS6.mono HB9.out.size)) (b := w.heap.size) (Nat.le_refl _) (.int .i64 0) (.int .i64 (-1))
          have hr6 := ((((RdF.own ho6).set ⟨w.heap.size, 0, none⟩ HRS.out.lt (.int .i64 0)).set ⟨w.heap.size, 1, none⟩ HRS.out.lt (.int .i64 (-1)))).less HB9.out.size
          rw [HE.out] at hr6
          have HR6 := Lib.hid hr6
          clear hr6 ho6 hg6
          go_wp2
          all_goals refine bodyPost_ret (v := .tuple #[v6, .agg #[.int .i64 0, .int .i64 (-1)]]) (by simp [results, Tryz.results14, go_sem, t0, t1, t2]) rfl ?_
          all_goals exact ⟨_, by rw [HJ.out], by rw [HR.out, HJO.out]; exact HR6.out, hb7⟩
end Go.Proofs.YtpacalklcdlhoaaGreatDoor

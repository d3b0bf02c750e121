/- Walks of owner.Of, Join, Leave. Condition: the sentinels that are read, and the library's tables, lie as named (SomeS, Tabs). -/
import Derived.Test.YtpacalklcdlhoaaGreatDoorOwnC
import Derived.Test.YtpacalklcdlhoaaGreatDoorInsR
import Derived.Test.YtpacalklcdlhoaaGreatDoorPrT
import Derived.Lib.SliceRun
import Derived.Lib.OwnBridge
namespace Go.Proofs.YtpacalklcdlhoaaGreatDoor
open Go.RowKit Go.Lib Go.Sort

theorem vi_getD (l : List Int) (j : Nat) (h : j < l.length) : (l.map VI')[j]? = some (.int .i64 (l.getD j 0)) := by
  simp [h, List.getD]
theorem Clone_any (v : Value) (l : List Int) (B : Nat) (w : World) (hv : Rd w B v (l.map VI')) (hl : l.length ≤ 2 ^ 40) :
    Calls Tryz.prog 41 #[v] w fun e w' => ∃ v', e = .returned v' ∧ w'.ownsRow w.heap.size 3 1 v' (l.map VI').length (l.map VI') ∧ Below w.heap.size w w' := by
  obtain ⟨A, c, rfl, _, hx⟩ := hv
  by_cases h0 : l = []
  · subst h0
    cases A with
    | none => exact (Tryz.slices_Clone_int_nil _ c w).mono fun e w' ⟨he, hw⟩ => ⟨_, he, by rw [hw]; exact World.ownsRow_nil _ _ _ _, by rw [hw]; exact Below.refl _ _⟩
    | some a => exact (Tryz.slices_Clone_int_zero a c w).mono fun e w' ⟨v', he, ho, _, hb⟩ => ⟨v', he, ho, hb⟩
  · obtain ⟨g, o, rfl, hg, hc⟩ := hx (by simpa using h0)
    refine (Tryz.slices_Clone_int g o (l.map VI').length c l w (by simp) (by simp; omega) (fun j hj => hc j _ (vi_getD l j hj))).mono ?_
    rintro e w' ⟨v', he, ho, _, hb⟩
    refine ⟨v', he, ?_, hb⟩
    have : (l.take (l.map VI').length).map (Value.int .i64) = l.map VI' := by rw [List.take_of_length_le (by simp)]
    rw [this] at ho
    exact ho
theorem Search_any (v : Value) (l : List Int) (x : Int) (B : Nat) (w : World) (hv : Rd w B v (l.map VI')) (hl : l.length ≤ 2 ^ 40) (hr : Rising l) :
    Calls Tryz.prog 38 #[v, .int .i64 x] w fun e w' => e = .returned (.tuple #[.int .i64 (placeOf l x : Nat), .bool (decide (x ∈ l))]) ∧ Below w.heap.size w w' := by
  obtain ⟨A, c, rfl, _, hx⟩ := hv
  by_cases h0 : l = []
  · subst h0
    exact (Tryz.slices_BinarySearch_int_empty A c x w).mono fun e w' ⟨he, hw⟩ => ⟨he, by rw [hw]; exact Below.refl _ _⟩
  · obtain ⟨g, o, rfl, hg, hc⟩ := hx (by simpa using h0)
    have ht : l.take (l.map VI').length = l := List.take_of_length_le (by simp)
    refine (Tryz.slices_BinarySearch_int g o (l.map VI').length c l x w (by simp) (by simp; omega) (fun j hj => hc j _ (vi_getD l j hj)) (by rw [ht]; exact rising_pairwise l hr)).mono ?_
    rintro e w' ⟨he, q, hw⟩
    rw [ht, countP_place l x hr] at he
    refine ⟨by rw [he]; simp, by rw [hw]; exact below_drewN (Below.refl _ w) q⟩
theorem Index_any' (v : Value) (l : List Int) (x : Int) (B : Nat) (w : World) (hv : Rd w B v (l.map VI')) (hl : l.length ≤ 2 ^ 40) :
    Calls Tryz.prog 43 #[v, .int .i64 x] w fun e w' => e = .returned (.int .i64 (idxOf l x)) ∧ w = w' := by
  obtain ⟨A, c, rfl, _, hx⟩ := hv
  by_cases h0 : l = []
  · subst h0
    exact (Tryz.slices_Index_int_empty A c x w).mono fun e w' ⟨he, hw⟩ => ⟨he, hw.symm⟩
  · obtain ⟨g, o, rfl, hg, hc⟩ := hx (by simpa using h0)
    have ht : l.take (l.map VI').length = l := List.take_of_length_le (by simp)
    refine (Tryz.slices_Index_int g o (l.map VI').length c l x w (by simp) (by simp; omega) (fun j hj => hc j _ (vi_getD l j hj))).mono ?_
    rintro e w' ⟨he, hw⟩
    rw [ht] at he
    exact ⟨he, hw.symm⟩
/-- the closure -/
theorem gives_eq (y x : Int) (b : Nat) (W : World) (hc : W.cell? ⟨b, 0, none⟩ = some (.int .i64 y)) :
    FnGives Tryz.prog 45 #[.pointer (some ⟨b, 0, none⟩)] #[.int .i64 x] (.bool (x == y)) W := by
  show Calls Tryz.prog 45 #[.int .i64 x, .pointer (some ⟨b, 0, none⟩)] W _
  go_enter Tryz.func45, Tryz.ntmps45
  go_wp2
  go_ret
  exact ⟨rfl, 0, rfl⟩
set_option maxHeartbeats 1000000 in
theorem DeleteF_any (B : Nat) (v : Value) (l : List Int) (y : Int) (b : Nat) (w : World) (hown : w.ownsRow B 3 1 v (l.map VI').length (l.map VI')) (hb : b < B) (hcell : w.cell? ⟨b, 0, none⟩ = some (.int .i64 y)) (hl : l.length ≤ 2 ^ 40) (hne : l ≠ []) :
    Calls Tryz.prog 44 #[v, .func (.func 45) #[] #[.pointer (some ⟨b, 0, none⟩)]] w fun e w' => ∃ v', e = .returned v' ∧ RdF B w' v' ((leaveOf l y).map VI') ∧ Below B w w' := by
  have eg : ∀ args w, (callFunc 45 args).run Tryz.prog w = .ok (.enter 45 args) w := enters_of Tryz.func45 (by kernel_rfl) rfl
  rcases hown.2 with ⟨_, h0⟩ | ⟨g, cap, cur, rfl, hg, hh, hnc, hcm, hcs, htk⟩
  · exact absurd (List.map_eq_nil_iff.1 (List.eq_nil_of_length_eq_zero h0)) hne
  · have hgw : g < w.heap.size := (Array.getElem?_eq_some_iff.1 hh).1
    have hbw : b < w.heap.size := by omega
    have hbg : (⟨b, 0, none⟩ : Addr).block ≠ g := by show b ≠ g; omega
    have hH : Holds (Value.int .i64) w g 0 l.toArray := fun j hj => by
      have hj' : j < l.length := by simpa using hj
      refine ⟨?_, frozen_of_row w g _ cur 3 hh⟩
      rw [Nat.zero_add, hown.cellAt j (by simp; omega), vi_getD l j hj']
      simp [List.getD, hj', getElem!_pos]
    have hcon := Tryz.slices_DeleteFunc (Value.int .i64) (fun _ => rfl) (fun x => x == y) 45 #[.pointer (some ⟨b, 0, none⟩)] eg 0 Tryz.zeroValue3 g 0 cap l.toArray w
      (fun W x hbl => gives_eq y x b W ((hbl.cell (p := ⟨b, 0, none⟩) hbw).trans hcell))
      (fun n os dk x _ => gives_eq y x b _ (by
        unfold sortWorld
        rw [cell?_grow _ _ _ (by show b < (putRow _ _ _ _ _).heap.size; rw [size_putRow]; exact hbw), cell?_putRow_other _ _ g 0 _ _ (Or.inl hbg)]
        exact hcell)) hH (by simp; omega) (by simp at hnc ⊢; omega)
    simp only [List.size_toArray] at hcon
    rw [List.length_map] at *
    refine hcon.mono ?_
    rintro e w' ⟨rfl, q, rfl⟩
    have hfl : l.filter (fun x => !(x == y)) = leaveOf l y := rfl
    rw [hfl]
    have hle : (leaveOf l y).length ≤ l.length := by unfold leaveOf; exact List.length_filter_le _ _
    have hsize : ((leaveOf l y) ++ List.replicate (l.length - (leaveOf l y).length) 0).toArray.size = l.toArray.size := by simp; omega
    refine ⟨_, rfl, ⟨_, _, by rw [List.length_map], by rw [List.length_map]; omega, fun _ => ⟨g, 0, rfl, hg, by rw [size_putRow]; exact hgw, fun k u hu => ?_⟩⟩, Lib.below_putRow ⟨rfl, rfl, rfl, Nat.le_refl _, fun _ _ => rfl⟩ hg⟩
    have hk : k < (leaveOf l y).length := by simpa using (List.getElem?_eq_some_iff.1 hu).1
    have hH2 : Holds (Value.int .i64) (Sort.ahead w q) g 0 l.toArray := hH
    rw [cell?_putRow (Value.int .i64) (Sort.ahead w q) g 0 l.toArray _ hH2 hsize k (by rw [hsize]; simp; omega), ← hu]
    rw [List.getElem?_map, List.getElem?_eq_getElem hk]
    simp [getElem!_pos, hk]
    rw [List.getElem?_append_left hk, List.getElem?_eq_getElem hk]; rfl

set_option maxRecDepth 100000 in
set_option maxHeartbeats 1000000 in
theorem JoinF_any (a : Nat → Addr) (v : Value) (l : List Int) (n : Int) (B : Nat) (w : World) (hv : Rd w B v (l.map VI')) (hl : l.length ≤ 2 ^ 40) (hB : B ≤ w.heap.size) (hs : SomeS [1, 5, 7] a w) :
    Calls Tryz.prog 13 #[v, .int .i64 n] w fun e w' => ∃ v' r, e = .returned (.tuple #[v', r]) ∧ EV a r (joinErr l n).1 (joinErr l n).2 w' ∧ RdF w.heap.size w' v' ((joinRes l n).map VI') ∧ Below w.heap.size w w' := by
  have HV := Lib.hid hv
  have HS := Lib.hid hs
  have HE0 := Lib.hid (oeach_any a v l B w hv (by omega) (fun k hk => hs k (by simp at hk ⊢; omega)))
  clear hv hs
  by_cases h0 : (nodesErr 0 none l).1 = 0
  · have hrise := (nodesErr_zero l 0 none h0).2.1
    have H0 := Lib.hid h0
    clear h0
    by_cases hn : nodeOk n
    · by_cases hin : n ∈ l
      · have HJ : Hid (joinErr l n = (6, -1)) := Lib.hid (by unfold joinErr; rw [if_neg (by rw [H0.out]; simp), if_neg (by simpa using hn), if_pos hin])
        have hq : decide (n ∈ l) = true := decide_eq_true hin
        have HN := Lib.hid hn
        clear hin hn
        go_enter Tryz.func13, Tryz.ntmps13
        go_wp2_with fail
        refine HE0.out.mono ?_
        rintro e w1 ⟨r, rfl, hr, hb⟩
        obtain ⟨rfl, _⟩ := hr.nil H0.out
        clear hr
        go_wp2_with fail
        refine (Search_any v l n B _ (HV.out.below (hb.mono hB)) hl hrise).mono ?_
        rintro e w2 ⟨rfl, hb2⟩
        rw [hq]
        have hb3 := hb.trans (hb2.mono hb.size)
        have s5 : w2.cell? ⟨3, 0, none⟩ = some (sval a 5) := (HS.out.below hb3) 5 (by simp)
        unfold sval at s5
        clear hb hb2
        go_wp2_with (go_at_call 39; refine (onode_yes _ _ HN.out).mono ?_; rintro e w5 ⟨rfl, rfl⟩)
        go_quiet (fail)
        go_wp2
        go_ret2
        refine ⟨_, _, rfl, ?_, ?_, below_drewN hb3 _⟩
        · rw [HJ.out]; exact EV.sent a _ 5 (by decide)
        · rw [joinRes_bad (by rw [HJ.out]; decide)]; exact RdF.nil _ _
      · have HJ : Hid (joinErr l n = (0, -1)) := Lib.hid (by unfold joinErr; rw [if_neg (by rw [H0.out]; simp), if_neg (by simpa using hn), if_neg hin])
        have hq : decide (n ∈ l) = false := decide_eq_false hin
        have HN := Lib.hid hn
        clear hin hn
        go_enter Tryz.func13, Tryz.ntmps13
        go_wp2_with fail
        refine HE0.out.mono ?_
        rintro e w1 ⟨r, rfl, hr, hb⟩
        obtain ⟨rfl, _⟩ := hr.nil H0.out
        clear hr
        go_wp2_with fail
        refine (Search_any v l n B _ (HV.out.below (hb.mono hB)) hl hrise).mono ?_
        rintro e w2 ⟨rfl, hb2⟩
        rw [hq]
        have hb3 := hb.trans (hb2.mono hb.size)
        have hz3 := hb3.size
        clear hb hb2
        go_wp2_with (first | (go_at_call 39; refine (onode_yes _ _ HN.out).mono ?_; rintro e w5 ⟨rfl, rfl⟩) | fail)
        refine (Clone_any v l B _ (HV.out.below (hb3.mono hB)) hl).mono ?_
        rintro e w4 ⟨v4, rfl, ho4, hb4⟩
        have hfm : ∃ A4 n4 c4, v4 = .slice A4 n4 c4 := by
          rcases ho4.2 with ⟨h, _⟩ | ⟨g, cap, cur, h, _⟩ <;> exact ⟨_, _, _, h⟩
        have hnb : v4.ownBlock ≠ some w4.heap.size := fun e => by have := (ho4.lt _ e).2; omega
        have hins := InsertF_own w2.heap.size v4 (l.map VI') (placeOf l n) (by rw [List.length_map]; exact placeOf_le l n) n w4.heap.size (w4.alloc (.cells #[.int .i64 n] 3)) (fun u hu => by simp at hu; obtain ⟨_, _, rfl⟩ := hu; rfl) (ho4.alloc _) (heap_alloc_new w4 _) hnb (by have := hb4.size; simp; omega) (by rw [List.length_map]; exact hl)
        have HI := Lib.hid hins
        have hb5 := hb3.trans ((hb4.alloc hb4.size (.cells #[.int .i64 n] 3)).mono hz3)
        have hz5 := hb5.size
        have hz35 : w2.heap.size ≤ (w4.alloc (.cells #[.int .i64 n] 3)).heap.size := by have := hb4.size; simp; omega
        clear hins ho4 hnb hb4 hb3
        obtain ⟨A4, n4, c4, rfl⟩ := hfm
        go_wp2_with fail
        refine HI.out.mono ?_
        rintro e w6 ⟨v6, rfl, hr6, hb6⟩
        have HR := Lib.hid hr6
        have hb7 := hb5.trans (hb6.mono hz3)
        clear hr6 hb5 hb6
        go_wp2
        go_ret2
        refine ⟨_, _, rfl, by rw [HJ.out]; exact EV.none _ _, ?_, hb7⟩
        rw [joinRes_ok (by rw [HJ.out])]
        have e1 : (l.map VI').take (placeOf l n) ++ Value.int .i64 n :: (l.map VI').drop (placeOf l n) = (joinOf l n).map VI' := by
          unfold joinOf; rw [List.map_append, List.map_take, List.map_cons, List.map_drop]
        rw [← e1]
        exact HR.out.less hz3
    · have HJ : Hid (joinErr l n = (2, -1)) := Lib.hid (by unfold joinErr; rw [if_neg (by rw [H0.out]; simp), if_pos hn])
      have HN := Lib.hid hn
      clear hn
      go_enter Tryz.func13, Tryz.ntmps13
      go_wp2_with fail
      refine HE0.out.mono ?_
      rintro e w1 ⟨r, rfl, hr, hb⟩
      obtain ⟨rfl, _⟩ := hr.nil H0.out
      clear hr
      go_wp2_with fail
      refine (Search_any v l n B _ (HV.out.below (hb.mono hB)) hl hrise).mono ?_
      rintro e w2 ⟨rfl, hb2⟩
      have hb3 := hb.trans (hb2.mono hb.size)
      have s1 : w2.cell? ⟨2, 0, none⟩ = some (sval a 1) := (HS.out.below hb3) 1 (by simp)
      unfold sval at s1
      clear hb hb2
      go_wp2_with (go_at_call 39; refine (onode_no _ _ HN.out).mono ?_; rintro e w5 ⟨rfl, rfl⟩)
      go_quiet (fail)
      go_wp2
      go_ret2
      refine ⟨_, _, rfl, ?_, ?_, below_drewN hb3 _⟩
      · rw [HJ.out]; exact EV.sent a _ 1 (by decide)
      · rw [joinRes_bad (by rw [HJ.out]; decide)]; exact RdF.nil _ _
  · have HJ : Hid (joinErr l n = nodesErr 0 none l) := Lib.hid (by unfold joinErr; rw [if_pos h0])
    have H0 := Lib.hid h0
    clear h0
    go_enter Tryz.func13, Tryz.ntmps13
    go_wp2_with fail
    refine HE0.out.mono ?_
    rintro e w1 ⟨r, rfl, hr, hb⟩
    obtain ⟨T, p, rfl⟩ := hr.some H0.out
    have HR := Lib.hid hr
    clear hr
    go_wp2
    go_ret2
    refine ⟨_, _, rfl, by rw [HJ.out]; exact HR.out, ?_, hb⟩
    rw [joinRes_bad (by rw [HJ.out]; exact H0.out)]
    exact RdF.nil _ _
theorem Join_any (a : Nat → Addr) (v : Value) (l : List Int) (n : Int) (B : Nat) (w : World) (hv : Rd w B v (l.map VI')) (hl : l.length ≤ 2 ^ 40) (hB : B ≤ w.heap.size) (hs : SomeS [1, 5, 7] a w) :
    Calls Tryz.prog 13 #[v, .int .i64 n] w fun e w' => ∃ v' r, e = .returned (.tuple #[v', r]) ∧ EV a r (joinErr l n).1 (joinErr l n).2 w' ∧ Rd w' w'.heap.size v' ((joinRes l n).map VI') ∧ Below w.heap.size w w' :=
  (JoinF_any a v l n B w hv hl hB hs).mono fun _ _ ⟨v', r, h1, h2, h3, h4⟩ => ⟨v', r, h1, h2, h3.rd, h4⟩
end Go.Proofs.YtpacalklcdlhoaaGreatDoor

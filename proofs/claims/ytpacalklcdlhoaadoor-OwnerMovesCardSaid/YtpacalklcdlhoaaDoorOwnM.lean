/- Walk of the law OwnerMoves. Condition: the sentinels that are read, and the library's tables, lie as named (OwnW). -/
import Derived.Test.YtpacalklcdlhoaaDoorOwnE
import Derived.Test.YtpacalklcdlhoaaDoorOwnF
import Derived.Test.YtpacalklcdlhoaaDoorPrR
import Derived.Test.YtpacalklcdlhoaaDoorSame
namespace Go.Proofs.YtpacalklcdlhoaaDoor
open Go.RowKit Go.Lib

structure OwnW (a : Nat → Addr) (w : World) : Prop where
  s : SomeS [1, 2, 4, 5, 7] a w
  t : Tabs w
theorem OwnW.below {a : Nat → Addr} {w w' : World} (h : OwnW a w) (hb : Below w.heap.size w w') : OwnW a w' := ⟨h.s.below hb, h.t.below hb⟩
theorem OwnW.sub {a : Nat → Addr} {w : World} (h : OwnW a w) (ks : List Nat) (hk : ∀ k ∈ ks, k ∈ [1, 2, 4, 5, 7]) : SomeS ks a w := fun k hm => h.s k (hk k hm)
theorem Rd_lit (w : World) (l : List Int) (hl : l.length ≤ 2 ^ 40) : Rd (w.alloc (.cells (l.map VI').toArray 3)) (w.alloc (.cells (l.map VI').toArray 3)).heap.size (.slice (some ⟨w.heap.size, 0, none⟩) l.length l.length) (l.map VI') := by
  have h := World.ownsRow_lit (base := w.heap.size) (e := 3) (size := 1) w (l.map VI').toArray l.length (Nat.le_refl _) (by unfold maxLen; omega) (by simp)
  exact Rd.own h
theorem Of_any' (a : Nat → Addr) (v : Value) (l : List Int) (p : Nat) (len : Int) (hp : p < 4294967296) (h0 : -9223372036854775808 ≤ len) (h1 : len ≤ 9223372036854775807) (B : Nat) (w : World) (hv : Rd w B v (l.map VI')) (hl : l.length ≤ 2 ^ 40) (hB : B ≤ w.heap.size) (h : OwnW a w) :
    Calls Tryd.prog 11 #[v, .agg #[.int .u32 (p : Int), .int .i64 len]] w fun e w' => ∃ r, e = .returned (.tuple #[.int .i64 (ofRes p len l), r]) ∧ EV a r (ofErr l len).1 (ofErr l len).2 w' ∧ Below w.heap.size w w' :=
  Of_any a v l p len hp h0 h1 B w hv hl hB (h.sub _ (by decide)) h.t
theorem bestOf_one (f : Int → Nat) (n : Int) : bestOf f [n] = n := by unfold bestOf bestStep; simp
set_option maxRecDepth 100000 in
set_option maxHeartbeats 1000000 in
theorem owned_any (a : Nat → Addr) (w : World) (h : OwnW a w) :
    Calls Tryd.prog 9 #[] w fun e w' => e = .returned (.bool true) ∧ Below w.heap.size w w' := by
  have hb0 : Below w.heap.size w (w.alloc (.cells #[.int .i64 3] 3)) := (Below.refl _ w).alloc (Nat.le_refl _) _
  have hr0 : Rd (w.alloc (.cells #[.int .i64 3] 3)) (w.alloc (.cells #[.int .i64 3] 3)).heap.size (.slice (some ⟨w.heap.size, 0, none⟩) 1 1) ([3].map VI') := Rd_lit w [3] (by decide)
  have H0 := Lib.hid (h.below hb0)
  have HR0 := Lib.hid hr0
  have e1 : (ofErr [3] 1).1 = 0 := by decide
  have e2 : Hid (ofRes (prOf [97]) 1 [3] = 3) := Lib.hid (by rw [ofRes_ok e1, bestOf_one])
  have e3 : (joinErr [3] 1).1 = 0 := by decide
  have e4 : joinRes [3] 1 = [1, 3] := by rw [joinRes_ok e3]; decide
  have E1 := Lib.hid e1
  have E3 := Lib.hid e3
  have E4 := Lib.hid e4
  clear h hr0 e1 e3 e4
  go_enter Tryd.func9, Tryd.ntmps9
  go_wp2_with fail
  generalize w.alloc (.cells #[.int .i64 3] 3) = w0 at *
  refine (IDOf_any ⟨#[97]⟩ _ (by decide)).mono ?_
  rintro e w1 ⟨rfl, hb1⟩
  have H1 := Lib.hid (H0.out.below hb1)
  have HR1 := Lib.hid (HR0.out.below hb1)
  have hz1 := hb1.size
  have hB1 := hb0.trans (hb1.mono hb0.size)
  clear hb0 hb1
  go_wp2_with fail
  refine (Of_any' a _ [3] (prOf [97]) 1 (prOf_lt _) (by decide) (by decide) w0.heap.size w1 HR1.out (by decide) hz1 H1.out).mono ?_
  rintro e w2 ⟨r, rfl, hr, hb2⟩
  obtain ⟨rfl, _⟩ := hr.nil E1.out
  rw [e2.out]
  have hB2 := hB1.trans (hb2.mono hB1.size)
  have hB3 := hB2.alloc hB2.size (.cells #[.int .i64 3] 3)
  have H2 := Lib.hid ((H1.out.below hb2).below ((Below.refl _ w2).alloc (Nat.le_refl _) (.cells #[.int .i64 3] 3)))
  have HR2 : Hid (Rd (w2.alloc (.cells #[.int .i64 3] 3)) (w2.alloc (.cells #[.int .i64 3] 3)).heap.size (.slice (some ⟨w2.heap.size, 0, none⟩) 1 1) ([3].map VI')) := Rd_lit w2 [3] (by decide)
  clear hr hB1 hB2 hb2
  go_wp2_with fail
  generalize w2.alloc (.cells #[.int .i64 3] 3) = w3 at *
  refine (Join_any a _ [3] 1 w3.heap.size w3 HR2.out (by decide) (Nat.le_refl _) (H2.out.sub _ (by decide))).mono ?_
  rintro e w4 ⟨v4, r, rfl, hr, hr4, hb4⟩
  obtain ⟨rfl, _⟩ := hr.nil E3.out
  rw [E4.out] at hr4
  have HR4 := Lib.hid hr4
  have hB4 := hB3.trans (hb4.mono hB3.size)
  have hB5 := hB4.alloc hB4.size (.cells #[.int .i64 1, .int .i64 3] 3)
  have HR5 : Hid (Rd (w4.alloc (.cells #[.int .i64 1, .int .i64 3] 3)) (w4.alloc (.cells #[.int .i64 1, .int .i64 3] 3)).heap.size (.slice (some ⟨w4.heap.size, 0, none⟩) 2 2) ([1, 3].map VZ)) := Rd_lit w4 [1, 3] (by decide)
  have HR6 := Lib.hid ((HR4.out.below ((Below.refl w4.heap.size w4).alloc (Nat.le_refl _) (.cells #[.int .i64 1, .int .i64 3] 3))).more (by simp : w4.heap.size ≤ (w4.alloc (.cells #[.int .i64 1, .int .i64 3] 3)).heap.size))
  clear hr hr4 hb4
  go_wp2_with fail
  generalize w4.alloc (.cells #[.int .i64 1, .int .i64 3] 3) = w5 at *
  refine (SameInts_any _ _ [1, 3] [1, 3] w5.heap.size w5 HR6.out HR5.out (by decide) (by decide)).mono ?_
  rintro e w6 ⟨rfl, q, rfl⟩
  have hB6 := below_drewN hB5 q
  go_wp2
  go_ret
  exact ⟨rfl, hB6⟩

set_option maxRecDepth 100000 in
set_option maxHeartbeats 4000000 in
theorem OwnerMoves_some (a : Nat → Addr) (v : Value) (l : List Int) (p : Nat) (len : Int) (n : Int) (hp : p < 4294967296) (h0 : -9223372036854775808 ≤ len) (h1 : len ≤ 9223372036854775807) (w : World) (hv : Rd w w.heap.size v (l.map VI'))
    (h : OwnW a w) (hl10 : l.length ≤ 10) (hc : (checkErr l).1 = 0) (hlen : ¬ len < 0) :
    Calls Tryd.prog 3 #[v, .agg #[.int .u32 (p : Int), .int .i64 len], .int .i64 n] w fun e w' => e = .returned (.bool true) ∧ Below w.heap.size w w' := by
  have hb0 : Below w.heap.size w (w.alloc (.cells #[.int .u32 (p : Int), .int .i64 len] 25)) := (Below.refl _ w).alloc (Nat.le_refl _) _
  have hc0 : (w.alloc (.cells #[.int .u32 (p : Int), .int .i64 len] 25)).cell? ⟨w.heap.size, 0, none⟩ = some (.int .u32 (p : Int)) := by rw [World.cell?_alloc_at _ _ _ _ rfl]; rfl
  have hc1 : (w.alloc (.cells #[.int .u32 (p : Int), .int .i64 len] 25)).cell? ⟨w.heap.size, 1, none⟩ = some (.int .i64 len) := by rw [World.cell?_alloc_at _ _ _ _ rfl]; rfl
  have hz0 : w.heap.size < (w.alloc (.cells #[.int .u32 (p : Int), .int .i64 len] 25)).heap.size := by simp
  have H0 := Lib.hid (h.below hb0)
  have HX := Lib.hid (fun (w' : World) (hb : Below w.heap.size w w') => hv.below hb)
  obtain ⟨hne, hnode, hrise⟩ := checkErr_zero l hc
  have hmem := (bestOf_is (scoreOf p len) l hne hrise).1
  have hjoin := best_join (scoreOf p len) l n hne hrise
  have hl40 : l.length ≤ 2 ^ 40 := by omega
  have hofl : (ofErr l len).1 = 0 := by unfold ofErr; rw [hc]; simp [hlen]
  have OF0 := Lib.hid hofl
  have OR0 := Lib.hid (ofRes_ok (p := p) hofl)
  have hqm : Hid (decide (bestOf (scoreOf p len) l ∈ l) = true) := Lib.hid (decide_eq_true hmem)
  have HC := Lib.hid hc
  have HJ0 := Lib.hid hjoin
  obtain ⟨A, c, rfl, hlc, hx⟩ := hv
  rw [List.length_map] at *
  clear h hc hofl hmem hjoin hlc hx
  go_enter Tryd.func3, Tryd.ntmps3
  go_wp2_with fail
  generalize w.alloc (.cells #[.int .u32 (p : Int), .int .i64 len] 25) = w0 at *
  refine (owned_any a w0 H0.out).mono ?_
  rintro e w1 ⟨rfl, hb1⟩
  have H1 := Lib.hid (H0.out.below hb1)
  have hcc : ∀ w', Below w0.heap.size w0 w' → w'.cell? ⟨w.heap.size, 0, none⟩ = some (.int .u32 (p : Int)) ∧ w'.cell? ⟨w.heap.size, 1, none⟩ = some (.int .i64 len) := fun w' hb' =>
    ⟨(hb'.cell (p := ⟨w.heap.size, 0, none⟩) hz0).trans hc0, (hb'.cell (p := ⟨w.heap.size, 1, none⟩) hz0).trans hc1⟩
  have HCC := Lib.hid hcc
  have HB0 := Lib.hid hb0
  have X1 := Lib.hid hb1
  clear hcc hc0 hc1 hb0 hb1
  go_wp2_with fail
  refine (oCheck_any a _ l w.heap.size w1 (HX.out _ (HB0.out.trans (X1.out.mono HB0.out.size))) (by omega) (H1.out.sub _ (by decide))).mono ?_
  rintro e w2 ⟨r, rfl, hr, hb2⟩
  obtain ⟨rfl, _⟩ := hr.nil HC.out
  have H2 := Lib.hid (H1.out.below hb2)
  have X2 := Lib.hid (X1.out.trans (hb2.mono X1.out.size))
  obtain ⟨d0, d1⟩ := HCC.out _ X2.out
  have B2 := Lib.hid (HB0.out.trans (X2.out.mono HB0.out.size))
  clear hr hb2
  go_wp2_with fail
  refine (Of_any' a _ l p len hp h0 h1 w.heap.size w2 (HX.out _ B2.out) hl40 B2.out.size H2.out).mono ?_
  rintro e w3 ⟨r, rfl, hr, hb3⟩
  obtain ⟨rfl, _⟩ := hr.nil OF0.out
  rw [OR0.out]
  have H3 := Lib.hid (H2.out.below hb3)
  have X3 := Lib.hid (X2.out.trans (hb3.mono X2.out.size))
  have B3 := Lib.hid (HB0.out.trans (X3.out.mono HB0.out.size))
  clear hr hb3 d0 d1
  go_wp2_with fail
  refine (InInts_any _ _ l w.heap.size w3 (HX.out _ B3.out) (by omega)).mono ?_
  rintro e w4 ⟨rfl, rfl⟩
  rw [hqm.out]
  have HWB : Hid (∀ w', Below w0.heap.size w0 w' → Below w.heap.size w w') := Lib.hid (fun w' hb => HB0.out.trans (hb.mono HB0.out.size))
  clear X1 X2 B2 H1 H2 H0
  by_cases hje : (joinErr l n).1 = 0
  · obtain ⟨hnn, hnl⟩ := joinErr_zero hje
    have hxr := rising_join l n hrise hnl
    have hxn : joinOf l n ≠ [] := by unfold joinOf; simp
    have hxk : ∀ m ∈ joinOf l n, nodeOk m := fun m hm => by
      rcases (mem_joinOf l n m).1 hm with rfl | hm
      · exact hnn
      · exact hnode m hm
    have hck := checkErr_ok (joinOf l n) hxn hxk hxr
    have hof : ofErr (joinOf l n) len = (0, -1) := by unfold ofErr; rw [hck]; simp [hlen]
    have hle : leaveErr (joinOf l n) n = (0, -1) := by unfold leaveErr; rw [hck]; simp [(mem_joinOf l n n).2 (.inl rfl)]
    have hlr : leaveRes (joinOf l n) n = l := by rw [leaveRes_ok (by rw [hle]), leave_join l n hnl]
    have hxl : (joinOf l n).length = l.length + 1 := by unfold joinOf; exact insert_len l _ (placeOf_le l n) n
    have hxl2 : (joinOf l n).length ≤ 2 ^ 40 := by omega
    clear hxl
    have JE := Lib.hid hje
    have JR := Lib.hid (joinRes_ok hje)
    have CK := Lib.hid hck
    have OF := Lib.hid hof
    have OR := Lib.hid (ofRes_ok (p := p) (show (ofErr (joinOf l n) len).1 = 0 by rw [hof]))
    have LE0 := Lib.hid hle
    have LR0 := Lib.hid hlr
    have hq : ((bestOf (scoreOf p len) (joinOf l n) != bestOf (scoreOf p len) l) = false) ∨ ((bestOf (scoreOf p len) (joinOf l n) != bestOf (scoreOf p len) l) = true ∧ (bestOf (scoreOf p len) (joinOf l n) != n) = false) := by
      by_cases e : bestOf (scoreOf p len) (joinOf l n) = bestOf (scoreOf p len) l
      · exact .inl (by simpa using e)
      · exact .inr ⟨by simpa using e, by simpa using (HJ0.out hnl).resolve_left e⟩
    have HQ := Lib.hid hq
    clear hje hnn hnl hxr hxn hxk hck hof hle hlr hq
    go_wp2_with fail
    refine (Join_any a _ l n w.heap.size w3 (HX.out _ B3.out) hl40 B3.out.size (H3.out.sub _ (by decide))).mono ?_
    rintro e w4 ⟨v4, r, rfl, hr, hr4, hb4⟩
    obtain ⟨rfl, _⟩ := hr.nil JE.out
    rw [JR.out] at hr4
    have HR4 := Lib.hid hr4
    obtain ⟨A4, c4, rfl, _, _⟩ := hr4
    rw [List.length_map] at HR4
    rw [List.length_map]
    have H4 := Lib.hid (H3.out.below hb4)
    have X4 := Lib.hid (X3.out.trans (hb4.mono X3.out.size))
    obtain ⟨d0, d1⟩ := HCC.out _ X4.out
    clear hr hb4
    go_wp2_with fail
    refine (Of_any' a _ (joinOf l n) p len hp h0 h1 w4.heap.size w4 HR4.out hxl2 (Nat.le_refl _) H4.out).mono ?_
    rintro e w5 ⟨r, rfl, hr, hb5⟩
    obtain ⟨rfl, _⟩ := hr.nil (by rw [OF.out])
    rw [OR.out]
    have HR5 := Lib.hid (HR4.out.below hb5)
    have H5 := Lib.hid (H4.out.below hb5)
    have X5 := Lib.hid (X4.out.trans (hb5.mono X4.out.size))
    have hz5 := hb5.size
    clear hr hb5 d0 d1
    generalize hbx : bestOf (scoreOf p len) (joinOf l n) = bx at *
    rcases HQ.out with q1 | ⟨q1, q2⟩
    · go_wp2_with fail
      refine (oCheck_any a _ (joinOf l n) w4.heap.size w5 HR5.out (by omega) (H5.out.sub _ (by decide))).mono ?_
      rintro e w6 ⟨r, rfl, hr, hb6⟩
      obtain ⟨rfl, _⟩ := hr.nil (by rw [CK.out])
      have HR6 := Lib.hid (HR5.out.below (hb6.mono hz5))
      have H6 := Lib.hid (H5.out.below hb6)
      have X6 := Lib.hid (X5.out.trans (hb6.mono X5.out.size))
      have hz6 := Nat.le_trans hz5 hb6.size
      clear hr hb6
      go_wp2_with fail
      refine (Leave_any a _ (joinOf l n) n w4.heap.size w6 HR6.out hxl2 hz6 (H6.out.sub _ (by decide))).mono ?_
      rintro e w7 ⟨v7, r, rfl, hr, hr7, hb7⟩
      obtain ⟨rfl, _⟩ := hr.nil (by rw [LE0.out])
      rw [LR0.out] at hr7
      have HR7 := Lib.hid hr7
      have H7 := Lib.hid (H6.out.below hb7)
      have X7 := Lib.hid (X6.out.trans (hb7.mono X6.out.size))
      have hz7 : w.heap.size ≤ w7.heap.size := (HWB.out _ X7.out).size
      clear hr hr7 hb7
      go_wp2_with fail
      refine (SameInts_any _ _ l l w7.heap.size w7 HR7.out ((HX.out _ (HWB.out _ X7.out)).more hz7) (by omega) (by omega)).mono ?_
      rintro e w8 ⟨rfl, q, rfl⟩
      rw [decide_eq_true rfl]
      have WX : Hid (Below w0.heap.size w0 (w7.drewN q)) := Lib.hid (below_drewN X7.out q)
      have WO := Lib.hid (H7.out.below (below_drewN (Below.refl _ w7) q))
      clear H7 X7 HR7 HR6 H6 X6 HR5 H5 X5 HR4 H4 X4 hz7 hz6 hz5
      generalize w7.drewN q = W at *
      by_cases hle : (leaveErr l n).1 = 0
      · have LE := Lib.hid hle
        have LR := Lib.hid (leaveRes_ok hle)
        clear hle
        by_cases hemp : leaveOf l n = []
        · have LX := Lib.hid hemp
          clear hemp
          go_wp2_with fail
          refine (Leave_any a _ l n w.heap.size _ (HX.out _ (HWB.out _ WX.out)) hl40 ((HWB.out _ WX.out).size) ((WO.out).sub _ (by decide))).mono ?_
          rintro e w8 ⟨v8, r, rfl, hr, hr8, hb8⟩
          obtain ⟨rfl, _⟩ := hr.nil LE.out
          rw [LR.out, LX.out] at hr8
          obtain ⟨A8, c8, rfl, _, _⟩ := hr8
          have X8 := WX.out.trans (hb8.mono WX.out.size)
          have hB8 := HWB.out _ X8
          go_wp2
          go_ret
          exact ⟨rfl, hB8⟩
        · have hbl := best_leave (scoreOf p len) l n hrise hemp
          have hck : checkErr (leaveOf l n) = (0, -1) := checkErr_ok _ hemp (fun m hm => hnode m ((mem_leaveOf l n m).1 hm).1) (rising_filter _ l hrise)
          have hof : ofErr (leaveOf l n) len = (0, -1) := by unfold ofErr; rw [hck]; simp [hlen]
          have hlen8 : (leaveOf l n).length ≠ 0 := fun e => hemp (List.length_eq_zero_iff.1 e)
          have hl8 : (leaveOf l n).length ≤ l.length := by unfold leaveOf; exact List.length_filter_le _ _
          have OF := Lib.hid hof
          have OR := Lib.hid (ofRes_ok (p := p) (show (ofErr (leaveOf l n) len).1 = 0 by rw [hof]))
          have hq8 : (((leaveOf l n).length : Int) == 0) = false := by simpa using hlen8
          have hne8 : (bestOf (scoreOf p len) (leaveOf l n) != n) = true := by simpa using hbl.2
          have hq9 : (n == bestOf (scoreOf p len) l) = true ∨ ((n == bestOf (scoreOf p len) l) = false ∧ (bestOf (scoreOf p len) (leaveOf l n) == bestOf (scoreOf p len) l) = true) := by
            by_cases e : n = bestOf (scoreOf p len) l
            · exact .inl (by simpa using e)
            · exact .inr ⟨by simpa using e, by simpa using hbl.1.resolve_left e⟩
          have HQ9 := Lib.hid hq9
          clear hemp hbl hck hof hlen8 hq9
          go_wp2_with fail
          refine (Leave_any a _ l n w.heap.size _ (HX.out _ (HWB.out _ WX.out)) hl40 ((HWB.out _ WX.out).size) ((WO.out).sub _ (by decide))).mono ?_
          rintro e w8 ⟨v8, r, rfl, hr, hr8, hb8⟩
          obtain ⟨rfl, _⟩ := hr.nil LE.out
          rw [LR.out] at hr8
          have HR8 := Lib.hid hr8
          obtain ⟨A8, c8, rfl, _, _⟩ := hr8
          rw [List.length_map] at HR8
          rw [List.length_map]
          have X8 := WX.out.trans (hb8.mono WX.out.size)
          have hB8 := HWB.out _ X8
          have HO8 := Lib.hid ((WO.out).below hb8)
          obtain ⟨d0, d1⟩ := HCC.out _ X8
          go_wp2_with fail
          refine (Of_any' a _ (leaveOf l n) p len hp h0 h1 w8.heap.size w8 HR8.out (by omega) (Nat.le_refl _) HO8.out).mono ?_
          rintro e w9 ⟨r, rfl, hr, hb9⟩
          obtain ⟨rfl, _⟩ := hr.nil (by rw [OF.out])
          rw [OR.out]
          have hB9 := HWB.out _ (X8.trans (hb9.mono X8.size))
          generalize bestOf (scoreOf p len) (leaveOf l n) = b8 at *
          generalize bestOf (scoreOf p len) l = b0 at *
          rcases HQ9.out with q9 | ⟨q9, q10⟩
          · go_wp2
            go_ret
            exact ⟨rfl, hB9⟩
          · go_wp2
            go_ret
            exact ⟨rfl, hB9⟩
      · have LE := Lib.hid hle
        clear hle
        go_wp2_with fail
        refine (Leave_any a _ l n w.heap.size _ (HX.out _ (HWB.out _ WX.out)) hl40 ((HWB.out _ WX.out).size) ((WO.out).sub _ (by decide))).mono ?_
        rintro e w8 ⟨v8, r, rfl, hr, hr8, hb8⟩
        obtain ⟨T, q, rfl⟩ := hr.some LE.out
        have X8 := WX.out.trans (hb8.mono WX.out.size)
        have hB8 := HWB.out _ X8
        go_wp2
        go_ret
        exact ⟨rfl, hB8⟩
    · go_wp2_with fail
      refine (oCheck_any a _ (joinOf l n) w4.heap.size w5 HR5.out (by omega) (H5.out.sub _ (by decide))).mono ?_
      rintro e w6 ⟨r, rfl, hr, hb6⟩
      obtain ⟨rfl, _⟩ := hr.nil (by rw [CK.out])
      have HR6 := Lib.hid (HR5.out.below (hb6.mono hz5))
      have H6 := Lib.hid (H5.out.below hb6)
      have X6 := Lib.hid (X5.out.trans (hb6.mono X5.out.size))
      have hz6 := Nat.le_trans hz5 hb6.size
      clear hr hb6
      go_wp2_with fail
      refine (Leave_any a _ (joinOf l n) n w4.heap.size w6 HR6.out hxl2 hz6 (H6.out.sub _ (by decide))).mono ?_
      rintro e w7 ⟨v7, r, rfl, hr, hr7, hb7⟩
      obtain ⟨rfl, _⟩ := hr.nil (by rw [LE0.out])
      rw [LR0.out] at hr7
      have HR7 := Lib.hid hr7
      have H7 := Lib.hid (H6.out.below hb7)
      have X7 := Lib.hid (X6.out.trans (hb7.mono X6.out.size))
      have hz7 : w.heap.size ≤ w7.heap.size := (HWB.out _ X7.out).size
      clear hr hr7 hb7
      go_wp2_with fail
      refine (SameInts_any _ _ l l w7.heap.size w7 HR7.out ((HX.out _ (HWB.out _ X7.out)).more hz7) (by omega) (by omega)).mono ?_
      rintro e w8 ⟨rfl, q, rfl⟩
      rw [decide_eq_true rfl]
      have WX : Hid (Below w0.heap.size w0 (w7.drewN q)) := Lib.hid (below_drewN X7.out q)
      have WO := Lib.hid (H7.out.below (below_drewN (Below.refl _ w7) q))
      clear H7 X7 HR7 HR6 H6 X6 HR5 H5 X5 HR4 H4 X4 hz7 hz6 hz5
      generalize w7.drewN q = W at *
      by_cases hle : (leaveErr l n).1 = 0
      · have LE := Lib.hid hle
        have LR := Lib.hid (leaveRes_ok hle)
        clear hle
        by_cases hemp : leaveOf l n = []
        · have LX := Lib.hid hemp
          clear hemp
          go_wp2_with fail
          refine (Leave_any a _ l n w.heap.size _ (HX.out _ (HWB.out _ WX.out)) hl40 ((HWB.out _ WX.out).size) ((WO.out).sub _ (by decide))).mono ?_
          rintro e w8 ⟨v8, r, rfl, hr, hr8, hb8⟩
          obtain ⟨rfl, _⟩ := hr.nil LE.out
          rw [LR.out, LX.out] at hr8
          obtain ⟨A8, c8, rfl, _, _⟩ := hr8
          have X8 := WX.out.trans (hb8.mono WX.out.size)
          have hB8 := HWB.out _ X8
          go_wp2
          go_ret
          exact ⟨rfl, hB8⟩
        · have hbl := best_leave (scoreOf p len) l n hrise hemp
          have hck : checkErr (leaveOf l n) = (0, -1) := checkErr_ok _ hemp (fun m hm => hnode m ((mem_leaveOf l n m).1 hm).1) (rising_filter _ l hrise)
          have hof : ofErr (leaveOf l n) len = (0, -1) := by unfold ofErr; rw [hck]; simp [hlen]
          have hlen8 : (leaveOf l n).length ≠ 0 := fun e => hemp (List.length_eq_zero_iff.1 e)
          have hl8 : (leaveOf l n).length ≤ l.length := by unfold leaveOf; exact List.length_filter_le _ _
          have OF := Lib.hid hof
          have OR := Lib.hid (ofRes_ok (p := p) (show (ofErr (leaveOf l n) len).1 = 0 by rw [hof]))
          have hq8 : (((leaveOf l n).length : Int) == 0) = false := by simpa using hlen8
          have hne8 : (bestOf (scoreOf p len) (leaveOf l n) != n) = true := by simpa using hbl.2
          have hq9 : (n == bestOf (scoreOf p len) l) = true ∨ ((n == bestOf (scoreOf p len) l) = false ∧ (bestOf (scoreOf p len) (leaveOf l n) == bestOf (scoreOf p len) l) = true) := by
            by_cases e : n = bestOf (scoreOf p len) l
            · exact .inl (by simpa using e)
            · exact .inr ⟨by simpa using e, by simpa using hbl.1.resolve_left e⟩
          have HQ9 := Lib.hid hq9
          clear hemp hbl hck hof hlen8 hq9
          go_wp2_with fail
          refine (Leave_any a _ l n w.heap.size _ (HX.out _ (HWB.out _ WX.out)) hl40 ((HWB.out _ WX.out).size) ((WO.out).sub _ (by decide))).mono ?_
          rintro e w8 ⟨v8, r, rfl, hr, hr8, hb8⟩
          obtain ⟨rfl, _⟩ := hr.nil LE.out
          rw [LR.out] at hr8
          have HR8 := Lib.hid hr8
          obtain ⟨A8, c8, rfl, _, _⟩ := hr8
          rw [List.length_map] at HR8
          rw [List.length_map]
          have X8 := WX.out.trans (hb8.mono WX.out.size)
          have hB8 := HWB.out _ X8
          have HO8 := Lib.hid ((WO.out).below hb8)
          obtain ⟨d0, d1⟩ := HCC.out _ X8
          go_wp2_with fail
          refine (Of_any' a _ (leaveOf l n) p len hp h0 h1 w8.heap.size w8 HR8.out (by omega) (Nat.le_refl _) HO8.out).mono ?_
          rintro e w9 ⟨r, rfl, hr, hb9⟩
          obtain ⟨rfl, _⟩ := hr.nil (by rw [OF.out])
          rw [OR.out]
          have hB9 := HWB.out _ (X8.trans (hb9.mono X8.size))
          generalize bestOf (scoreOf p len) (leaveOf l n) = b8 at *
          generalize bestOf (scoreOf p len) l = b0 at *
          rcases HQ9.out with q9 | ⟨q9, q10⟩
          · go_wp2
            go_ret
            exact ⟨rfl, hB9⟩
          · go_wp2
            go_ret
            exact ⟨rfl, hB9⟩
      · have LE := Lib.hid hle
        clear hle
        go_wp2_with fail
        refine (Leave_any a _ l n w.heap.size _ (HX.out _ (HWB.out _ WX.out)) hl40 ((HWB.out _ WX.out).size) ((WO.out).sub _ (by decide))).mono ?_
        rintro e w8 ⟨v8, r, rfl, hr, hr8, hb8⟩
        obtain ⟨T, q, rfl⟩ := hr.some LE.out
        have X8 := WX.out.trans (hb8.mono WX.out.size)
        have hB8 := HWB.out _ X8
        go_wp2
        go_ret
        exact ⟨rfl, hB8⟩
  · have JE := Lib.hid hje
    clear hje
    go_wp2_with fail
    refine (Join_any a _ l n w.heap.size w3 (HX.out _ B3.out) hl40 B3.out.size (H3.out.sub _ (by decide))).mono ?_
    rintro e w4 ⟨v4, r, rfl, hr, hr4, hb4⟩
    obtain ⟨T, q, rfl⟩ := hr.some JE.out
    have WX := Lib.hid (X3.out.trans (hb4.mono X3.out.size))
    have WO := Lib.hid (H3.out.below hb4)
    clear hr hr4 hb4
    by_cases hle : (leaveErr l n).1 = 0
    · have LE := Lib.hid hle
      have LR := Lib.hid (leaveRes_ok hle)
      clear hle
      by_cases hemp : leaveOf l n = []
      · have LX := Lib.hid hemp
        clear hemp
        go_wp2_with fail
        refine (Leave_any a _ l n w.heap.size _ (HX.out _ (HWB.out _ WX.out)) hl40 ((HWB.out _ WX.out).size) ((WO.out).sub _ (by decide))).mono ?_
        rintro e w8 ⟨v8, r, rfl, hr, hr8, hb8⟩
        obtain ⟨rfl, _⟩ := hr.nil LE.out
        rw [LR.out, LX.out] at hr8
        obtain ⟨A8, c8, rfl, _, _⟩ := hr8
        have X8 := WX.out.trans (hb8.mono WX.out.size)
        have hB8 := HWB.out _ X8
        go_wp2
        go_ret
        exact ⟨rfl, hB8⟩
      · have hbl := best_leave (scoreOf p len) l n hrise hemp
        have hck : checkErr (leaveOf l n) = (0, -1) := checkErr_ok _ hemp (fun m hm => hnode m ((mem_leaveOf l n m).1 hm).1) (rising_filter _ l hrise)
        have hof : ofErr (leaveOf l n) len = (0, -1) := by unfold ofErr; rw [hck]; simp [hlen]
        have hlen8 : (leaveOf l n).length ≠ 0 := fun e => hemp (List.length_eq_zero_iff.1 e)
        have hl8 : (leaveOf l n).length ≤ l.length := by unfold leaveOf; exact List.length_filter_le _ _
        have OF := Lib.hid hof
        have OR := Lib.hid (ofRes_ok (p := p) (show (ofErr (leaveOf l n) len).1 = 0 by rw [hof]))
        have hq8 : (((leaveOf l n).length : Int) == 0) = false := by simpa using hlen8
        have hne8 : (bestOf (scoreOf p len) (leaveOf l n) != n) = true := by simpa using hbl.2
        have hq9 : (n == bestOf (scoreOf p len) l) = true ∨ ((n == bestOf (scoreOf p len) l) = false ∧ (bestOf (scoreOf p len) (leaveOf l n) == bestOf (scoreOf p len) l) = true) := by
          by_cases e : n = bestOf (scoreOf p len) l
          · exact .inl (by simpa using e)
          · exact .inr ⟨by simpa using e, by simpa using hbl.1.resolve_left e⟩
        have HQ9 := Lib.hid hq9
        clear hemp hbl hck hof hlen8 hq9
        go_wp2_with fail
        refine (Leave_any a _ l n w.heap.size _ (HX.out _ (HWB.out _ WX.out)) hl40 ((HWB.out _ WX.out).size) ((WO.out).sub _ (by decide))).mono ?_
        rintro e w8 ⟨v8, r, rfl, hr, hr8, hb8⟩
        obtain ⟨rfl, _⟩ := hr.nil LE.out
        rw [LR.out] at hr8
        have HR8 := Lib.hid hr8
        obtain ⟨A8, c8, rfl, _, _⟩ := hr8
        rw [List.length_map] at HR8
        rw [List.length_map]
        have X8 := WX.out.trans (hb8.mono WX.out.size)
        have hB8 := HWB.out _ X8
        have HO8 := Lib.hid ((WO.out).below hb8)
        obtain ⟨d0, d1⟩ := HCC.out _ X8
        go_wp2_with fail
        refine (Of_any' a _ (leaveOf l n) p len hp h0 h1 w8.heap.size w8 HR8.out (by omega) (Nat.le_refl _) HO8.out).mono ?_
        rintro e w9 ⟨r, rfl, hr, hb9⟩
        obtain ⟨rfl, _⟩ := hr.nil (by rw [OF.out])
        rw [OR.out]
        have hB9 := HWB.out _ (X8.trans (hb9.mono X8.size))
        generalize bestOf (scoreOf p len) (leaveOf l n) = b8 at *
        generalize bestOf (scoreOf p len) l = b0 at *
        rcases HQ9.out with q9 | ⟨q9, q10⟩
        · go_wp2
          go_ret
          exact ⟨rfl, hB9⟩
        · go_wp2
          go_ret
          exact ⟨rfl, hB9⟩
    · have LE := Lib.hid hle
      clear hle
      go_wp2_with fail
      refine (Leave_any a _ l n w.heap.size _ (HX.out _ (HWB.out _ WX.out)) hl40 ((HWB.out _ WX.out).size) ((WO.out).sub _ (by decide))).mono ?_
      rintro e w8 ⟨v8, r, rfl, hr, hr8, hb8⟩
      obtain ⟨T, q, rfl⟩ := hr.some LE.out
      have X8 := WX.out.trans (hb8.mono WX.out.size)
      have hB8 := HWB.out _ X8
      go_wp2
      go_ret
      exact ⟨rfl, hB8⟩
set_option maxRecDepth 100000 in
set_option maxHeartbeats 1000000 in
theorem OwnerMoves_walk (a : Nat → Addr) (v : Value) (l : List Int) (p : Nat) (len : Int) (n : Int) (hp : p < 4294967296) (h0 : -9223372036854775808 ≤ len) (h1 : len ≤ 9223372036854775807) (hl : l.length ≤ maxLen) (w : World) (hv : Rd w w.heap.size v (l.map VI')) (h : OwnW a w) :
    Calls Tryd.prog 3 #[v, .agg #[.int .u32 (p : Int), .int .i64 len], .int .i64 n] w fun e w' => e = .returned (.bool true) ∧ Below w.heap.size w w' := by
  unfold maxLen at hl
  have hb0 : Below w.heap.size w (w.alloc (.cells #[.int .u32 (p : Int), .int .i64 len] 25)) := (Below.refl _ w).alloc (Nat.le_refl _) _
  have hc0 : (w.alloc (.cells #[.int .u32 (p : Int), .int .i64 len] 25)).cell? ⟨w.heap.size, 0, none⟩ = some (.int .u32 (p : Int)) := by rw [World.cell?_alloc_at _ _ _ _ rfl]; rfl
  have hc1 : (w.alloc (.cells #[.int .u32 (p : Int), .int .i64 len] 25)).cell? ⟨w.heap.size, 1, none⟩ = some (.int .i64 len) := by rw [World.cell?_alloc_at _ _ _ _ rfl]; rfl
  have hz0 : w.heap.size < (w.alloc (.cells #[.int .u32 (p : Int), .int .i64 len] 25)).heap.size := by simp
  have H0 := Lib.hid (h.below hb0)
  by_cases h10 : l.length ≤ 10
  · by_cases hc : (checkErr l).1 = 0
    · by_cases hlen : len < 0
      · have HX := Lib.hid (fun (w' : World) (hb : Below w.heap.size w w') => hv.below hb)
        have hof : ofErr l len = (3, -1) := by unfold ofErr; rw [if_neg (by rw [hc]; simp), if_pos hlen]
        have OF := Lib.hid hof
        have OR := Lib.hid (ofRes_bad (p := p) (show (ofErr l len).1 ≠ 0 by rw [hof]; decide))
        have HC := Lib.hid hc
        obtain ⟨A, c, rfl, hlc, hx⟩ := hv
        rw [List.length_map] at *
        clear h hc hof hlc hx
        go_enter Tryd.func3, Tryd.ntmps3
        go_wp2_with fail
        generalize w.alloc (.cells #[.int .u32 (p : Int), .int .i64 len] 25) = w0 at *
        refine (owned_any a w0 H0.out).mono ?_
        rintro e w1 ⟨rfl, hb1⟩
        have H1 := Lib.hid (H0.out.below hb1)
        have hB1 := hb0.trans (hb1.mono hb0.size)
        go_wp2_with fail
        refine (oCheck_any a _ l w.heap.size w1 (HX.out _ hB1) (by omega) (H1.out.sub _ (by decide))).mono ?_
        rintro e w2 ⟨r, rfl, hr, hb2⟩
        obtain ⟨rfl, _⟩ := hr.nil HC.out
        have H2 := Lib.hid (H1.out.below hb2)
        have X2 := hb1.trans (hb2.mono hb1.size)
        have hB2 := hb0.trans (X2.mono hb0.size)
        have d0 := (X2.cell (p := ⟨w.heap.size, 0, none⟩) hz0).trans hc0
        have d1 := (X2.cell (p := ⟨w.heap.size, 1, none⟩) hz0).trans hc1
        clear hr hb2 hB1 hb1
        go_wp2_with fail
        refine (Of_any' a _ l p len hp h0 h1 w.heap.size w2 (HX.out _ hB2) (by omega) hB2.size H2.out).mono ?_
        rintro e w3 ⟨r, rfl, hr, hb3⟩
        rw [OF.out] at hr
        obtain ⟨T, q, rfl⟩ := hr.some (by decide)
        rw [OR.out]
        have X3 := X2.trans (hb3.mono X2.size)
        have hB3 := hb0.trans (X3.mono hb0.size)
        have d3 := (X3.cell (p := ⟨w.heap.size, 1, none⟩) hz0).trans hc1
        clear hr hb3 d0 d1 X2 X3 hB2
        go_wp2
        go_ret
        exact ⟨rfl, hB3⟩
      · exact OwnerMoves_some a v l p len n hp h0 h1 w hv h h10 hc hlen
    · have HX := Lib.hid (fun (w' : World) (hb : Below w.heap.size w w') => hv.below hb)
      have HC := Lib.hid hc
      obtain ⟨A, c, rfl, hlc, hx⟩ := hv
      rw [List.length_map] at *
      clear h hc hlc hx
      go_enter Tryd.func3, Tryd.ntmps3
      go_wp2_with fail
      generalize w.alloc (.cells #[.int .u32 (p : Int), .int .i64 len] 25) = w0 at *
      refine (owned_any a w0 H0.out).mono ?_
      rintro e w1 ⟨rfl, hb1⟩
      have H1 := Lib.hid (H0.out.below hb1)
      have hB1 := hb0.trans (hb1.mono hb0.size)
      go_wp2_with fail
      refine (oCheck_any a _ l w.heap.size w1 (HX.out _ hB1) (by omega) (H1.out.sub _ (by decide))).mono ?_
      rintro e w2 ⟨r, rfl, hr, hb2⟩
      obtain ⟨T, q, rfl⟩ := hr.some HC.out
      have hB2 := hB1.trans (hb2.mono hB1.size)
      clear hr
      go_wp2
      go_ret
      exact ⟨rfl, hB2⟩
  · obtain ⟨A, c, rfl, hlc, hx⟩ := hv
    rw [List.length_map] at *
    have h11 : (10 : Int) < (l.length : Int) := by omega
    clear h hlc hx h10
    go_enter Tryd.func3, Tryd.ntmps3
    go_wp2_with fail
    generalize w.alloc (.cells #[.int .u32 (p : Int), .int .i64 len] 25) = w0 at *
    refine (owned_any a w0 H0.out).mono ?_
    rintro e w1 ⟨rfl, hb1⟩
    have hB1 := hb0.trans (hb1.mono hb0.size)
    go_wp2
    go_ret
    exact ⟨rfl, hB1⟩
end Go.Proofs.YtpacalklcdlhoaaDoor

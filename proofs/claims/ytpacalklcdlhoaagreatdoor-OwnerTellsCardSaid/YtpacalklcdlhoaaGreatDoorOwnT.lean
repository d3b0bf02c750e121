/- Walk of the law OwnerTells. Condition: the sentinels, the type handle and the library's tables lie as named (TelW). -/
import Derived.Test.YtpacalklcdlhoaaGreatDoorOwnN
import Derived.Test.YtpacalklcdlhoaaGreatDoorErrV
import Derived.Test.YtpacalklcdlhoaaGreatDoorRefL
import Derived.Test.YtpacalklcdlhoaaGreatDoorRefW
import Derived.Test.YtpacalklcdlhoaaGreatDoorHeldN
namespace Go.Proofs.YtpacalklcdlhoaaGreatDoor
open Go.RowKit Go.Lib

structure TelW (a : Nat → Addr) (w : World) : Prop where
  s : Sents a w
  t : Tabs w
theorem TelW.below {a : Nat → Addr} {w w' : World} (h : TelW a w) (hb : Below w.heap.size w w') : TelW a w' := ⟨h.s.below hb, h.t.below hb⟩
theorem TelW.own {a : Nat → Addr} {w : World} (h : TelW a w) : OwnW a w := ⟨h.s.someS _ (by decide), h.t⟩
theorem EV.errV {a : Nat → Addr} {v : Value} {c t : Int} {w : World} (h : EV a v c t w) (hs : Sents a w) : ErrV a v c t w := by
  rcases h with ⟨rfl, rfl, rfl⟩ | ⟨k, hk, rfl, rfl, rfl⟩ | ⟨k, b, o, hk, rfl, rfl, h1, h2⟩
  · exact ErrV.none _ _
  · exact ErrV.sent hs k hk
  · exact ErrV.fault hs k hk h1 h2
theorem faulted2_same (a : Nat → Addr) (v : Value) (c t : Int) (w : World) (h : TelW a w) (he : EV a v c t w) :
    Calls Tryz.prog 6 #[v, .agg #[.int .i64 c, .int .i64 t]] w fun e w' => e = .returned (.bool true) ∧ Below w.heap.size w w' :=
  (faulted2_any a v c t c t w h.s (he.errV h.s)).mono fun e w' ⟨h1, h2⟩ => ⟨by rw [h1]; simp [faultedB], h2⟩
theorem RJoinNodes_any (v : Value) (l : List Int) (n : Int) (w : World) (hv : Rd w w.heap.size v (l.map VI')) (hl : l.length ≤ 2 ^ 40) :
    Calls Tryz.prog 14 #[v, .int .i64 n] w (NodesPost w (joinRes l n) (joinErr l n)) := by
  by_cases h : (joinErr l n).1 = 0
  · exact RJoinNodes_ok v l n w hv hl h
  · exact RJoinNodes_bad v l n w hv hl h
/-- what stands behind the append -/
structure Tell (a : Nat → Addr) (w : World) (v vo : Value) (l : List Int) (p : Nat) (len : Int) (X : World) : Prop where
  t : TelW a X
  rl : Rd X w.heap.size v (l.map VI')
  ro : Rd X X.heap.size vo (l.map VI')
  i : Box2 w.heap.size (.int .u32 (p : Int)) (.int .i64 len) X
  b : Below w.heap.size w X
/-- .. and wherever old memory stands -/
structure TellAt (a : Nat → Addr) (w : World) (v vo : Value) (l : List Int) (p : Nat) (len : Int) (X Y : World) : Prop where
  t : TelW a Y
  rl : Rd Y w.heap.size v (l.map VI')
  ro : Rd Y X.heap.size vo (l.map VI')
  i0 : Y.cell? ⟨w.heap.size, 0, none⟩ = some (.int .u32 (p : Int))
  i1 : Y.cell? ⟨w.heap.size, 1, none⟩ = some (.int .i64 len)
  b : Below w.heap.size w Y
theorem Tell.at_ {a : Nat → Addr} {w X Y : World} {v vo : Value} {l : List Int} {p : Nat} {len : Int} (h : Tell a w v vo l p len X) (hb : Below X.heap.size X Y) : TellAt a w v vo l p len X Y :=
  ⟨h.t.below hb, h.rl.below (hb.mono h.b.size), h.ro.below hb, (h.i.below hb h.i.lt).c0, (h.i.below hb h.i.lt).c1, h.b.trans (hb.mono h.b.size)⟩
/-- a fault's own block: two numbers and nothing else -/
structure FBox (b : Nat) (c t : Int) (w : World) : Prop where
  box : Box2 b (.int .i64 c) (.int .i64 t) w
  ends : ∀ j, 2 ≤ j → w.cell? ⟨b, j, none⟩ = none
theorem FBox.lt {b : Nat} {c t : Int} {w : World} (h : FBox b c t w) : b < w.heap.size := h.box.lt
theorem FBox.below {b B : Nat} {c t : Int} {w w' : World} (h : FBox b c t w) (hb : Below B w w') (hB : b < B) : FBox b c t w' :=
  ⟨h.box.below hb hB, fun j hj => (hb.cell (p := ⟨b, j, none⟩) hB).trans (h.ends j hj)⟩
theorem FBox.mk' (w : World) (c t : Int) (T : TypeId) : FBox w.heap.size c t (w.alloc (.cells #[.int .i64 c, .int .i64 t] T)) :=
  ⟨Box2.mk' w _ _ _, fun j hj => by rw [World.cell?_alloc_at _ _ _ _ rfl]; exact Array.getElem?_eq_none (by simpa using hj)⟩
theorem FBox.set {b : Nat} {c t : Int} {w : World} (h : FBox b c t w) (u v : Int) : FBox b u v ((w.setCell ⟨b, 0, none⟩ (.int .i64 u)).setCell ⟨b, 1, none⟩ (.int .i64 v)) :=
  ⟨h.box.set _ _, fun j hj => by
    rw [World.cell?_setCell_other _ _ _ _ (by intro e; injection e with _ e; omega), World.cell?_setCell_other _ _ _ _ (by intro e; injection e with _ e; omega)]
    exact h.ends j hj⟩
theorem EV.set2 {a : Nat → Addr} {v : Value} {c t : Int} {w : World} (h : EV a v c t w) {b : Nat} {x y : Int} (hb : FBox b x y w) (u z : Int) :
    EV a v c t ((w.setCell ⟨b, 0, .none⟩ (.int .i64 u)).setCell ⟨b, 1, .none⟩ (.int .i64 z)) := by
  rcases h with h | h | ⟨k, b', o, hk, h1, h2, h3, h4⟩
  · exact .inl h
  · exact .inr (.inl h)
  · have hne : b' ≠ b := by
      rintro rfl
      rcases Nat.lt_or_ge (o + 1) 2 with h | h
      · have : o = 0 := by omega
        subst this
        have := hb.box.c1.symm.trans h4
        unfold sval at this
        cases this
      · have := (hb.ends (o + 1) h).symm.trans h4
        cases this
    refine .inr (.inr ⟨k, b', o, hk, h1, h2, ?_, ?_⟩)
    · rw [World.cell?_setCell_other _ _ _ _ (by intro e; injection e with e _; exact hne e.symm), World.cell?_setCell_other _ _ _ _ (by intro e; injection e with e _; exact hne e.symm)]; exact h3
    · rw [World.cell?_setCell_other _ _ _ _ (by intro e; injection e with e _; exact hne e.symm), World.cell?_setCell_other _ _ _ _ (by intro e; injection e with e _; exact hne e.symm)]; exact h4
theorem len_joinRes (l : List Int) (n : Int) (h : l.length ≤ 2 ^ 40) : (joinRes l n).length ≤ 2 ^ 62 := by
  unfold joinRes
  split
  · unfold joinOf
    have := placeOf_le l n
    simp; omega
  · simp
theorem len_leaveRes (l : List Int) (n : Int) (h : l.length ≤ 2 ^ 40) : (leaveRes l n).length ≤ 2 ^ 62 := by
  unfold leaveRes
  split
  · have := List.length_filter_le (fun m => !(m == n)) l
    unfold leaveOf; omega
  · simp
set_option maxRecDepth 100000 in
set_option maxHeartbeats 4000000 in
theorem OwnerTells_walk (a : Nat → Addr) (v : Value) (l : List Int) (p : Nat) (len : Int) (n : Int) (hp : p < 4294967296) (h0 : -9223372036854775808 ≤ len) (h1 : len ≤ 9223372036854775807) (k0 : -9223372036854775808 ≤ n) (k1 : n ≤ 9223372036854775807) (hmx : l.length ≤ maxLen) (w : World) (hv : Rd w w.heap.size v (l.map VI')) (h : TelW a w) :
    Calls Tryz.prog 3 #[v, .agg #[.int .u32 (p : Int), .int .i64 len], .int .i64 n] w fun e w' => e = .returned (.bool true) ∧ Below w.heap.size w w' := by
  obtain ⟨i0, hi, hz0, hz1, hz2⟩ := info_parts info_int'
  have hb0 : Below w.heap.size w (w.alloc (.cells #[.int .u32 (p : Int), .int .i64 len] 25)) := (Below.refl _ w).alloc (Nat.le_refl _) _
  have hbx : Box2 w.heap.size (.int .u32 (p : Int)) (.int .i64 len) (w.alloc (.cells #[.int .u32 (p : Int), .int .i64 len] 25)) := Box2.mk' w _ _ _
  have H0 := Lib.hid (h.below hb0)
  have HV := Lib.hid hv
  obtain ⟨A, c, rfl, hlc, _⟩ := hv
  rw [List.length_map] at *
  clear h
  go_enter Tryz.func3, Tryz.ntmps3
  go_wp2_with fail
  generalize w.alloc (.cells #[.int .u32 (p : Int), .int .i64 len] 25) = w0 at *
  refine (owned_any a w0 H0.out.own).mono ?_
  rintro e w1 ⟨rfl, hb1⟩
  have hB1 := hb0.trans (hb1.mono hb0.size)
  have hbx1 := hbx.below hb1 hbx.lt
  have H1 := Lib.hid (H0.out.below hb1)
  have HV1 := Lib.hid (HV.out.below hB1)
  clear hb0 hb1 hbx
  by_cases h10 : 10 < l.length
  · have h10i : (10 : Int) < (l.length : Int) := by omega
    go_wp2
    go_ret
    exact ⟨rfl, hB1⟩
  · have h10i : ¬ (10 : Int) < (l.length : Int) := by omega
    have hl : l.length ≤ 2 ^ 40 := by omega
    have hlm : (l.map VI').length = l.length := List.length_map _
    have HLM := Lib.hid hlm
    have HONE := Lib.hid (vi_one l)
    clear hlm
    have HB1 := Lib.hid hB1
    have HBX := Lib.hid hbx1
    clear hB1 hbx1
    go_wp2_with (first | (at_builtin; refine wpList_append_rd rfl (.tmp 24) (.tmp 25) 22 rfl w1.heap.size 3 i0 (.int .i64 0) 8 Tryz.underlying22 hi hz0 hz1 hz2 rfl _ 0 [] rfl (World.ownsRow_nil _ _ _ _) w.heap.size _ (l.map VI') rfl HV1.out HONE.out (by rw [HLM.out]; unfold maxLen; omega) (by rw [HLM.out]; omega) (Nat.le_refl _) ?_; intro vo X hoX hgX) | fail)
    have hbX : Below w1.heap.size w1 X := below_grown (Below.refl _ _) (Nat.le_refl _) (World.ownsRow_nil _ _ 3 1) hgX
    have hT : Tell a w (.slice A l.length c) vo l p len X :=
      ⟨H1.out.below hbX, HV1.out.below (hbX.mono HB1.out.size), Rd.own hoX, HBX.out.below hbX HBX.out.lt, HB1.out.trans (hbX.mono HB1.out.size)⟩
    have hform : ∃ Ao co, vo = .slice Ao l.length co := by
      obtain ⟨Ao, co, h1, _⟩ := Rd.own hoX
      exact ⟨Ao, co, by rw [h1]; simp⟩
    obtain ⟨Ao, co, rfl⟩ := hform
    have HT := Lib.hid hT
    have HAT := Lib.hid (fun Y (hb : Below X.heap.size X Y) => hT.at_ hb)
    clear hT hoX hgX hbX HBX HV1 HB1 H1 H0 HV
    have hS0 : Below X.heap.size X X.drew := (Below.refl _ _).drew
    by_cases hn : 0 ≤ n
    · refine region_S (fun w' => Below X.heap.size X w') 18 (by kernel_rfl) (by kernel_rfl) ?_
      refine take_S 0 rfl (by kernel_rfl) rfl hS0 (fun w' hS => by go_simp; rfl) ?_
      refine take_S 2 rfl (by kernel_rfl) rfl hS0 (fun w' hS => by go_simp; rfl) ?_
      refine carry_S 1 rfl (by kernel_rfl) (by decide) rfl (fun K hK => ?_)
      go_simp
      refine (oCheck_any a _ l X.heap.size _ (HAT.out _ hS0).ro (by omega) ((HAT.out _ hS0).t.s.someS _ (by decide))).mono ?_
      rintro e w3 ⟨r3, rfl, hr3, hb3⟩
      have hS3 : Below X.heap.size X w3 := hS0.trans (hb3.mono hS0.size)
      refine hK _ _ hS3 ?_
      clear hK K hb3
      try simp only [Act.put, List.setIfInBounds_toArray, List.set_cons_zero, List.set_cons_succ]
      refine carry_S 3 rfl (by kernel_rfl) (by decide) rfl (fun K hK => ?_)
      go_simp
      refine (RNodesFault_any _ l w3 ((HAT.out _ hS3).rl.more (HAT.out _ hS3).b.size) hl).mono ?_
      rintro e w4 ⟨rfl, hb4⟩
      have hr4 := hr3.below hb4
      have hS4 : Below X.heap.size X w4 := hS3.trans (hb4.mono hS3.size)
      refine hK _ _ hS4 ?_
      clear hK K hb4 hr3 hS3
      try simp only [Act.put, List.setIfInBounds_toArray, List.set_cons_zero, List.set_cons_succ]
      refine carry_S 4 rfl (by kernel_rfl) (by decide) rfl (fun K hK => ?_)
      go_simp
      refine (faulted2_same a _ _ _ w4 (HAT.out _ hS4).t hr4).mono ?_
      rintro e w5 ⟨rfl, hb5⟩
      have hS5 : Below X.heap.size X w5 := hS4.trans (hb5.mono hS4.size)
      refine hK _ _ hS5 ?_
      clear hK K hb5 hr4 hS4
      try simp only [Act.put, List.setIfInBounds_toArray, List.set_cons_zero, List.set_cons_succ]
      refine take_S 5 rfl (by kernel_rfl) rfl hS5 (fun w' hS => by go_simp; rfl) ?_
      refine take_S 6 rfl (by kernel_rfl) rfl hS5 (fun w' hS => by go_simp; rfl) ?_
      refine take_S 7 rfl (by kernel_rfl) rfl hS5 (fun w' hS => by go_simp; rfl) ?_
      refine take_S (v := .bool true) 8 rfl (by kernel_rfl) (by kernel_rfl) hS5 (fun w' hS => by go_simp) ?_
      try simp only [Act.put, List.getElem_toArray, List.getElem_cons_succ, List.getElem_cons_zero, List.setIfInBounds_toArray, List.set_cons_zero, List.set_cons_succ]
      refine take_S 9 rfl (by kernel_rfl) (by kernel_rfl) hS5 (fun w' hS => by go_simp; rfl) ?_
      try simp only [Act.put, List.getElem_toArray, List.getElem_cons_succ, List.getElem_cons_zero, List.setIfInBounds_toArray, List.set_cons_zero, List.set_cons_succ]
      refine take_S 10 rfl (by kernel_rfl) (by kernel_rfl) hS5 (fun w' hS => by go_simp; rfl) ?_
      try simp only [Act.put, List.getElem_toArray, List.getElem_cons_succ, List.getElem_cons_zero, List.setIfInBounds_toArray, List.set_cons_zero, List.set_cons_succ]
      refine take_S 11 rfl (by kernel_rfl) (by kernel_rfl) hS5 (fun w' hS => by obtain ⟨_, _, _, i0, i1, _⟩ := HAT.out _ hS; go_simp; rfl) ?_
      try simp only [Act.put, List.getElem_toArray, List.getElem_cons_succ, List.getElem_cons_zero, List.setIfInBounds_toArray, List.set_cons_zero, List.set_cons_succ]
      refine take_S 13 rfl (by kernel_rfl) (by kernel_rfl) hS5 (fun w' hS => by go_simp; rfl) ?_
      try simp only [Act.put, List.getElem_toArray, List.getElem_cons_succ, List.getElem_cons_zero, List.setIfInBounds_toArray, List.set_cons_zero, List.set_cons_succ]
      refine take_S 14 rfl (by kernel_rfl) (by kernel_rfl) hS5 (fun w' hS => by obtain ⟨_, _, _, i0, i1, _⟩ := HAT.out _ hS; go_simp; rfl) ?_
      try simp only [Act.put, List.getElem_toArray, List.getElem_cons_succ, List.getElem_cons_zero, List.setIfInBounds_toArray, List.set_cons_zero, List.set_cons_succ]
      refine carry_S 12 rfl (by kernel_rfl) (by decide) (by kernel_rfl) (fun K hK => ?_)
      go_simp
      refine (Score_any p len n hp h0 h1 k0 k1 w5 (HAT.out _ hS5).t.t).mono ?_
      rintro e w6 ⟨rfl, hb6⟩
      have hS6 : Below X.heap.size X w6 := hS5.trans (hb6.mono hS5.size)
      refine hK _ _ hS6 ?_
      clear hK K hb6 hS5
      try simp only [Act.put, List.getElem_toArray, List.getElem_cons_succ, List.getElem_cons_zero, List.setIfInBounds_toArray, List.set_cons_zero, List.set_cons_succ]
      refine carry_S 15 rfl (by kernel_rfl) (by decide) (by kernel_rfl) (fun K hK => ?_)
      go_simp
      refine (RScoreOf_any p len n hp h0 h1 k0 k1 w6).mono ?_
      rintro e w7 ⟨rfl, hb7⟩
      have hS7 : Below X.heap.size X w7 := hS6.trans (hb7.mono hS6.size)
      refine hK _ _ hS7 ?_
      clear hK K hb7 hS6
      try simp only [Act.put, List.getElem_toArray, List.getElem_cons_succ, List.getElem_cons_zero, List.setIfInBounds_toArray, List.set_cons_zero, List.set_cons_succ]
      generalize scoreOf p len n = SC at *
      refine take_S (v := .bool false) 16 rfl (by kernel_rfl) (by kernel_rfl) hS7 (fun w' hS => by go_simp) ?_
      try simp only [Act.put, List.getElem_toArray, List.getElem_cons_succ, List.getElem_cons_zero, List.setIfInBounds_toArray, List.set_cons_zero, List.set_cons_succ]
      refine take_S 17 rfl (by kernel_rfl) (by kernel_rfl) hS7 (fun w' hS => by go_simp; rfl) ?_
      try simp only [Act.put, List.getElem_toArray, List.getElem_cons_succ, List.getElem_cons_zero, List.setIfInBounds_toArray, List.set_cons_zero, List.set_cons_succ]
      refine forced_S (by kernel_rfl) ?_
      simp only [List.drop_succ_cons, List.drop_zero]
      have HS7 := Lib.hid hS7
      obtain ⟨_, _, _, i0, i1, _⟩ := HAT.out _ hS7
      clear hS7
      go_wp2_with fail
      refine (Of_any' a _ l p len hp h0 h1 X.heap.size w7 (HAT.out _ HS7.out).ro hl HS7.out.size (HAT.out _ HS7.out).t.own).mono ?_
      rintro e w8 ⟨r8, rfl, hr8, hb8⟩
      have hS8 : Below X.heap.size X w8 := HS7.out.trans (hb8.mono HS7.out.size)
      have HS8 := Lib.hid hS8
      obtain ⟨_, _, _, i0, i1, _⟩ := HAT.out _ hS8
      have HR8 := Lib.hid hr8
      clear hS8 hr8 hb8
      go_wp2_with fail
      refine (ROwnerOf_any _ l p len hp h0 h1 w8 ((HAT.out _ HS8.out).rl.more (HAT.out _ HS8.out).b.size) hl).mono ?_
      rintro e w9 ⟨rfl, hb9⟩
      generalize ofErr l len = q at *
      generalize ofRes p len l = KR at *
      have hS9 := HS8.out.trans (hb9.mono HS8.out.size)
      have hbox2 := FBox.mk' w9 q.1 q.2 32
      have hS10 := hS9.alloc hS9.size (.cells #[.int .i64 q.1, .int .i64 q.2] 32)
      have hr10 := HR8.out.below (hb9.alloc hb9.size (.cells #[.int .i64 q.1, .int .i64 q.2] 32))
      obtain ⟨d0, d1, f0, f1⟩ := hbox2.box
      have HS10 := Lib.hid hS10
      have HR10 := Lib.hid hr10
      have HBX10 := Lib.hid hbox2
      have HFX := Lib.hid hS9.size
      clear hS9 hb9 hS10 hr10 hbox2 HR8
      go_wp2_with fail
      generalize w9.alloc (.cells #[.int .i64 q.1, .int .i64 q.2] 32) = W10 at *
      refine (faulted2_same a r8 q.1 q.2 W10 (HAT.out _ HS10.out).t HR10.out).mono ?_
      rintro e w11 ⟨rfl, hb11⟩
      have HS11 := Lib.hid (HS10.out.trans (hb11.mono HS10.out.size))
      have HBX11 := Lib.hid (HBX10.out.below hb11 HBX10.out.lt)
      clear hb11 d0 d1 f0 f1
      generalize w9.heap.size = fb at *
      go_wp2_with fail
      refine (JoinF_any a _ l n X.heap.size w11 (HAT.out _ HS11.out).ro hl HS11.out.size ((HAT.out _ HS11.out).t.s.someS _ (by decide))).mono ?_
      rintro e xA ⟨vxA, rxA, rfl, hrxA, hvxA, hbxA⟩
      have HSxA := Lib.hid (HS11.out.trans (hbxA.mono HS11.out.size))
      have HBXxA := Lib.hid (HBX11.out.below hbxA HBX11.out.lt)
      have HRXA := Lib.hid hrxA
      have HVXA := Lib.hid hvxA
      have HLTA := Lib.hid HBX11.out.lt
      clear hrxA hvxA hbxA
      go_wp2_with fail
      refine (RJoinNodes_any _ l n xA ((HAT.out _ HSxA.out).rl.more (HAT.out _ HSxA.out).b.size) hl).mono ?_
      rintro e yA ⟨vyA, rfl, hvyA, hbyA⟩
      generalize joinErr l n = qA at *
      have hln := len_joinRes l n hl
      generalize joinRes l n = LA at *
      have hSy := HSxA.out.trans (hbyA.mono HSxA.out.size)
      have hbox := HBXxA.out.below hbyA HBXxA.out.lt
      have hS := below_set2 hSy (b := fb) HFX.out (.int .i64 qA.1) (.int .i64 qA.2)
      have hvx := (((HVXA.out.below hbyA).set ⟨fb, 0, none⟩ HLTA.out (.int .i64 qA.1)).set ⟨fb, 1, none⟩ HLTA.out (.int .i64 qA.2)).rd
      have hvy := ((hvyA.set ⟨fb, 0, none⟩ HBXxA.out.lt (.int .i64 qA.1)).set ⟨fb, 1, none⟩ HBXxA.out.lt (.int .i64 qA.2)).rd
      have hr := (HRXA.out.below hbyA).set2 hbox qA.1 qA.2
      have hbox2 := hbox.set qA.1 qA.2
      obtain ⟨t0, t1, t2⟩ := hbox.box.rd (.int .i64 qA.1) (.int .i64 qA.2)
      obtain ⟨d0, d1, f0, f1⟩ := hbox.box
      have HSzA := Lib.hid hS
      have HVxA := Lib.hid hvx
      have HVyA := Lib.hid hvy
      have HRzA := Lib.hid hr
      have HBXzA := Lib.hid hbox2
      clear hSy hbox hS hvx hvy hr hbox2 hvyA hbyA HVXA HRXA
      go_wp2_with fail
      generalize (yA.setCell ⟨fb, 0, none⟩ (.int .i64 qA.1)).setCell ⟨fb, 1, none⟩ (.int .i64 qA.2) = ZA at *
      refine (faulted2_same a rxA qA.1 qA.2 ZA (HAT.out _ HSzA.out).t HRzA.out).mono ?_
      rintro e uA ⟨rfl, huA⟩
      have HSuA := Lib.hid (HSzA.out.trans (huA.mono HSzA.out.size))
      have HBXuA := Lib.hid (HBXzA.out.below huA HBXzA.out.lt)
      have HVxuA := Lib.hid (HVxA.out.below huA)
      have HVyuA := Lib.hid (HVyA.out.below huA)
      clear huA t0 t1 t2 d0 d1 f0 f1
      go_wp2_with fail
      refine (SameInts_any _ _ LA LA ZA.heap.size uA HVxuA.out HVyuA.out hln hln).mono ?_
      rintro e sA ⟨rfl, jA, rfl⟩
      have HSoA := Lib.hid (below_drewN HSuA.out jA)
      have hqqA : decide (LA = LA) = true := decide_eq_true rfl
      rw [hqqA]
      have HBXoA : Hid (FBox fb qA.1 qA.2 (uA.drewN jA)) := Lib.hid ⟨HBXuA.out.box.drewN jA, HBXuA.out.ends⟩
      clear hqqA
      go_wp2_with fail
      refine (LeaveF_any a _ l n X.heap.size _ (HAT.out _ HSoA.out).ro hl HSoA.out.size ((HAT.out _ HSoA.out).t.s.someS _ (by decide))).mono ?_
      rintro e xB ⟨vxB, rxB, rfl, hrxB, hvxB, hbxB⟩
      have HSxB := Lib.hid (HSoA.out.trans (hbxB.mono HSoA.out.size))
      have HBXxB := Lib.hid (HBXoA.out.below hbxB HBXoA.out.lt)
      have HRXB := Lib.hid hrxB
      have HVXB := Lib.hid hvxB
      have HLTB := Lib.hid HBXoA.out.lt
      clear hrxB hvxB hbxB
      go_wp2_with fail
      refine (RLeaveNodes_any _ l n xB ((HAT.out _ HSxB.out).rl.more (HAT.out _ HSxB.out).b.size) hl).mono ?_
      rintro e yB ⟨vyB, rfl, hvyB, hbyB⟩
      generalize leaveErr l n = qB at *
      have hln := len_leaveRes l n hl
      generalize leaveRes l n = LB at *
      have hSy := HSxB.out.trans (hbyB.mono HSxB.out.size)
      have hbox := HBXxB.out.below hbyB HBXxB.out.lt
      have hS := below_set2 hSy (b := fb) HFX.out (.int .i64 qB.1) (.int .i64 qB.2)
      have hvx := (((HVXB.out.below hbyB).set ⟨fb, 0, none⟩ HLTB.out (.int .i64 qB.1)).set ⟨fb, 1, none⟩ HLTB.out (.int .i64 qB.2)).rd
      have hvy := ((hvyB.set ⟨fb, 0, none⟩ HBXxB.out.lt (.int .i64 qB.1)).set ⟨fb, 1, none⟩ HBXxB.out.lt (.int .i64 qB.2)).rd
      have hr := (HRXB.out.below hbyB).set2 hbox qB.1 qB.2
      have hbox2 := hbox.set qB.1 qB.2
      obtain ⟨t0, t1, t2⟩ := hbox.box.rd (.int .i64 qB.1) (.int .i64 qB.2)
      obtain ⟨d0, d1, f0, f1⟩ := hbox.box
      have HSzB := Lib.hid hS
      have HVxB := Lib.hid hvx
      have HVyB := Lib.hid hvy
      have HRzB := Lib.hid hr
      have HBXzB := Lib.hid hbox2
      clear hSy hbox hS hvx hvy hr hbox2 hvyB hbyB HVXB HRXB
      go_wp2_with fail
      generalize (yB.setCell ⟨fb, 0, none⟩ (.int .i64 qB.1)).setCell ⟨fb, 1, none⟩ (.int .i64 qB.2) = ZB at *
      refine (faulted2_same a rxB qB.1 qB.2 ZB (HAT.out _ HSzB.out).t HRzB.out).mono ?_
      rintro e uB ⟨rfl, huB⟩
      have HSuB := Lib.hid (HSzB.out.trans (huB.mono HSzB.out.size))
      have HBXuB := Lib.hid (HBXzB.out.below huB HBXzB.out.lt)
      have HVxuB := Lib.hid (HVxB.out.below huB)
      have HVyuB := Lib.hid (HVyB.out.below huB)
      clear huB t0 t1 t2 d0 d1 f0 f1
      go_wp2_with fail
      refine (SameInts_any _ _ LB LB ZB.heap.size uB HVxuB.out HVyuB.out hln hln).mono ?_
      rintro e sB ⟨rfl, jB, rfl⟩
      have HSoB := Lib.hid (below_drewN HSuB.out jB)
      have hqqB : decide (LB = LB) = true := decide_eq_true rfl
      rw [hqqB]
      have HBXoB : Hid (FBox fb qB.1 qB.2 (uB.drewN jB)) := Lib.hid ⟨HBXuB.out.box.drewN jB, HBXuB.out.ends⟩
      clear hqqB
      go_wp2_with fail
      refine (SameInts_any _ _ l l X.heap.size _ (HAT.out _ HSoB.out).ro ((HAT.out _ HSoB.out).rl.more HT.out.b.size) (by omega) (by omega)).mono ?_
      rintro e s9 ⟨rfl, j9, rfl⟩
      have hq9 : decide (l = l) = true := decide_eq_true rfl
      rw [hq9]
      have HSz9 := Lib.hid (below_drewN HSoB.out j9)
      have hend := (HAT.out _ HSz9.out).b
      go_wp2
      go_ret
      exact ⟨rfl, by simpa using hend⟩
    · refine region_S (fun w' => Below X.heap.size X w') 18 (by kernel_rfl) (by kernel_rfl) ?_
      refine take_S 0 rfl (by kernel_rfl) rfl hS0 (fun w' hS => by go_simp; rfl) ?_
      refine take_S 2 rfl (by kernel_rfl) rfl hS0 (fun w' hS => by go_simp; rfl) ?_
      refine carry_S 1 rfl (by kernel_rfl) (by decide) rfl (fun K hK => ?_)
      go_simp
      refine (oCheck_any a _ l X.heap.size _ (HAT.out _ hS0).ro (by omega) ((HAT.out _ hS0).t.s.someS _ (by decide))).mono ?_
      rintro e w3 ⟨r3, rfl, hr3, hb3⟩
      have hS3 : Below X.heap.size X w3 := hS0.trans (hb3.mono hS0.size)
      refine hK _ _ hS3 ?_
      clear hK K hb3
      try simp only [Act.put, List.setIfInBounds_toArray, List.set_cons_zero, List.set_cons_succ]
      refine carry_S 3 rfl (by kernel_rfl) (by decide) rfl (fun K hK => ?_)
      go_simp
      refine (RNodesFault_any _ l w3 ((HAT.out _ hS3).rl.more (HAT.out _ hS3).b.size) hl).mono ?_
      rintro e w4 ⟨rfl, hb4⟩
      have hr4 := hr3.below hb4
      have hS4 : Below X.heap.size X w4 := hS3.trans (hb4.mono hS3.size)
      refine hK _ _ hS4 ?_
      clear hK K hb4 hr3 hS3
      try simp only [Act.put, List.setIfInBounds_toArray, List.set_cons_zero, List.set_cons_succ]
      refine carry_S 4 rfl (by kernel_rfl) (by decide) rfl (fun K hK => ?_)
      go_simp
      refine (faulted2_same a _ _ _ w4 (HAT.out _ hS4).t hr4).mono ?_
      rintro e w5 ⟨rfl, hb5⟩
      have hS5 : Below X.heap.size X w5 := hS4.trans (hb5.mono hS4.size)
      refine hK _ _ hS5 ?_
      clear hK K hb5 hr4 hS4
      try simp only [Act.put, List.setIfInBounds_toArray, List.set_cons_zero, List.set_cons_succ]
      refine take_S 5 rfl (by kernel_rfl) rfl hS5 (fun w' hS => by go_simp; rfl) ?_
      refine take_S 6 rfl (by kernel_rfl) rfl hS5 (fun w' hS => by go_simp; rfl) ?_
      refine take_S 7 rfl (by kernel_rfl) rfl hS5 (fun w' hS => by go_simp; rfl) ?_
      refine take_S (v := .bool false) 8 rfl (by kernel_rfl) (by kernel_rfl) hS5 (fun w' hS => by go_simp) ?_
      try simp only [Act.put, List.getElem_toArray, List.getElem_cons_succ, List.getElem_cons_zero, List.setIfInBounds_toArray, List.set_cons_zero, List.set_cons_succ]
      refine take_S 9 rfl (by kernel_rfl) (by kernel_rfl) hS5 (fun w' hS => by go_simp; rfl) ?_
      try simp only [Act.put, List.getElem_toArray, List.getElem_cons_succ, List.getElem_cons_zero, List.setIfInBounds_toArray, List.set_cons_zero, List.set_cons_succ]
      refine skip_S 10 rfl (by kernel_rfl) (by kernel_rfl) hS5 ?_
      try simp only [Act.put, List.getElem_toArray, List.getElem_cons_succ, List.getElem_cons_zero, List.setIfInBounds_toArray, List.set_cons_zero, List.set_cons_succ]
      refine skip_S 11 rfl (by kernel_rfl) (by kernel_rfl) hS5 ?_
      try simp only [Act.put, List.getElem_toArray, List.getElem_cons_succ, List.getElem_cons_zero, List.setIfInBounds_toArray, List.set_cons_zero, List.set_cons_succ]
      refine skip_S 12 rfl (by kernel_rfl) (by kernel_rfl) hS5 ?_
      try simp only [Act.put, List.getElem_toArray, List.getElem_cons_succ, List.getElem_cons_zero, List.setIfInBounds_toArray, List.set_cons_zero, List.set_cons_succ]
      refine skip_S 13 rfl (by kernel_rfl) (by kernel_rfl) hS5 ?_
      try simp only [Act.put, List.getElem_toArray, List.getElem_cons_succ, List.getElem_cons_zero, List.setIfInBounds_toArray, List.set_cons_zero, List.set_cons_succ]
      refine skip_S 14 rfl (by kernel_rfl) (by kernel_rfl) hS5 ?_
      try simp only [Act.put, List.getElem_toArray, List.getElem_cons_succ, List.getElem_cons_zero, List.setIfInBounds_toArray, List.set_cons_zero, List.set_cons_succ]
      refine skip_S 15 rfl (by kernel_rfl) (by kernel_rfl) hS5 ?_
      try simp only [Act.put, List.getElem_toArray, List.getElem_cons_succ, List.getElem_cons_zero, List.setIfInBounds_toArray, List.set_cons_zero, List.set_cons_succ]
      refine skip_S 16 rfl (by kernel_rfl) (by kernel_rfl) hS5 ?_
      try simp only [Act.put, List.getElem_toArray, List.getElem_cons_succ, List.getElem_cons_zero, List.setIfInBounds_toArray, List.set_cons_zero, List.set_cons_succ]
      refine take_S 17 rfl (by kernel_rfl) (by kernel_rfl) hS5 (fun w' hS => by go_simp; rfl) ?_
      try simp only [Act.put, List.getElem_toArray, List.getElem_cons_succ, List.getElem_cons_zero, List.setIfInBounds_toArray, List.set_cons_zero, List.set_cons_succ]
      refine forced_S (by kernel_rfl) ?_
      simp only [List.drop_succ_cons, List.drop_zero]
      have HS7 := Lib.hid hS5
      obtain ⟨_, _, _, i0, i1, _⟩ := HAT.out _ hS5
      clear hS5
      go_wp2_with fail
      refine (Of_any' a _ l p len hp h0 h1 X.heap.size w5 (HAT.out _ HS7.out).ro hl HS7.out.size (HAT.out _ HS7.out).t.own).mono ?_
      rintro e w8 ⟨r8, rfl, hr8, hb8⟩
      have hS8 : Below X.heap.size X w8 := HS7.out.trans (hb8.mono HS7.out.size)
      have HS8 := Lib.hid hS8
      obtain ⟨_, _, _, i0, i1, _⟩ := HAT.out _ hS8
      have HR8 := Lib.hid hr8
      clear hS8 hr8 hb8
      go_wp2_with fail
      refine (ROwnerOf_any _ l p len hp h0 h1 w8 ((HAT.out _ HS8.out).rl.more (HAT.out _ HS8.out).b.size) hl).mono ?_
      rintro e w9 ⟨rfl, hb9⟩
      generalize ofErr l len = q at *
      generalize ofRes p len l = KR at *
      have hS9 := HS8.out.trans (hb9.mono HS8.out.size)
      have hbox2 := FBox.mk' w9 q.1 q.2 32
      have hS10 := hS9.alloc hS9.size (.cells #[.int .i64 q.1, .int .i64 q.2] 32)
      have hr10 := HR8.out.below (hb9.alloc hb9.size (.cells #[.int .i64 q.1, .int .i64 q.2] 32))
      obtain ⟨d0, d1, f0, f1⟩ := hbox2.box
      have HS10 := Lib.hid hS10
      have HR10 := Lib.hid hr10
      have HBX10 := Lib.hid hbox2
      have HFX := Lib.hid hS9.size
      clear hS9 hb9 hS10 hr10 hbox2 HR8
      go_wp2_with fail
      generalize w9.alloc (.cells #[.int .i64 q.1, .int .i64 q.2] 32) = W10 at *
      refine (faulted2_same a r8 q.1 q.2 W10 (HAT.out _ HS10.out).t HR10.out).mono ?_
      rintro e w11 ⟨rfl, hb11⟩
      have HS11 := Lib.hid (HS10.out.trans (hb11.mono HS10.out.size))
      have HBX11 := Lib.hid (HBX10.out.below hb11 HBX10.out.lt)
      clear hb11 d0 d1 f0 f1
      generalize w9.heap.size = fb at *
      go_wp2_with fail
      refine (JoinF_any a _ l n X.heap.size w11 (HAT.out _ HS11.out).ro hl HS11.out.size ((HAT.out _ HS11.out).t.s.someS _ (by decide))).mono ?_
      rintro e xA ⟨vxA, rxA, rfl, hrxA, hvxA, hbxA⟩
      have HSxA := Lib.hid (HS11.out.trans (hbxA.mono HS11.out.size))
      have HBXxA := Lib.hid (HBX11.out.below hbxA HBX11.out.lt)
      have HRXA := Lib.hid hrxA
      have HVXA := Lib.hid hvxA
      have HLTA := Lib.hid HBX11.out.lt
      clear hrxA hvxA hbxA
      go_wp2_with fail
      refine (RJoinNodes_any _ l n xA ((HAT.out _ HSxA.out).rl.more (HAT.out _ HSxA.out).b.size) hl).mono ?_
      rintro e yA ⟨vyA, rfl, hvyA, hbyA⟩
      generalize joinErr l n = qA at *
      have hln := len_joinRes l n hl
      generalize joinRes l n = LA at *
      have hSy := HSxA.out.trans (hbyA.mono HSxA.out.size)
      have hbox := HBXxA.out.below hbyA HBXxA.out.lt
      have hS := below_set2 hSy (b := fb) HFX.out (.int .i64 qA.1) (.int .i64 qA.2)
      have hvx := (((HVXA.out.below hbyA).set ⟨fb, 0, none⟩ HLTA.out (.int .i64 qA.1)).set ⟨fb, 1, none⟩ HLTA.out (.int .i64 qA.2)).rd
      have hvy := ((hvyA.set ⟨fb, 0, none⟩ HBXxA.out.lt (.int .i64 qA.1)).set ⟨fb, 1, none⟩ HBXxA.out.lt (.int .i64 qA.2)).rd
      have hr := (HRXA.out.below hbyA).set2 hbox qA.1 qA.2
      have hbox2 := hbox.set qA.1 qA.2
      obtain ⟨t0, t1, t2⟩ := hbox.box.rd (.int .i64 qA.1) (.int .i64 qA.2)
      obtain ⟨d0, d1, f0, f1⟩ := hbox.box
      have HSzA := Lib.hid hS
      have HVxA := Lib.hid hvx
      have HVyA := Lib.hid hvy
      have HRzA := Lib.hid hr
      have HBXzA := Lib.hid hbox2
      clear hSy hbox hS hvx hvy hr hbox2 hvyA hbyA HVXA HRXA
      go_wp2_with fail
      generalize (yA.setCell ⟨fb, 0, none⟩ (.int .i64 qA.1)).setCell ⟨fb, 1, none⟩ (.int .i64 qA.2) = ZA at *
      refine (faulted2_same a rxA qA.1 qA.2 ZA (HAT.out _ HSzA.out).t HRzA.out).mono ?_
      rintro e uA ⟨rfl, huA⟩
      have HSuA := Lib.hid (HSzA.out.trans (huA.mono HSzA.out.size))
      have HBXuA := Lib.hid (HBXzA.out.below huA HBXzA.out.lt)
      have HVxuA := Lib.hid (HVxA.out.below huA)
      have HVyuA := Lib.hid (HVyA.out.below huA)
      clear huA t0 t1 t2 d0 d1 f0 f1
      go_wp2_with fail
      refine (SameInts_any _ _ LA LA ZA.heap.size uA HVxuA.out HVyuA.out hln hln).mono ?_
      rintro e sA ⟨rfl, jA, rfl⟩
      have HSoA := Lib.hid (below_drewN HSuA.out jA)
      have hqqA : decide (LA = LA) = true := decide_eq_true rfl
      rw [hqqA]
      have HBXoA : Hid (FBox fb qA.1 qA.2 (uA.drewN jA)) := Lib.hid ⟨HBXuA.out.box.drewN jA, HBXuA.out.ends⟩
      clear hqqA
      go_wp2_with fail
      refine (LeaveF_any a _ l n X.heap.size _ (HAT.out _ HSoA.out).ro hl HSoA.out.size ((HAT.out _ HSoA.out).t.s.someS _ (by decide))).mono ?_
      rintro e xB ⟨vxB, rxB, rfl, hrxB, hvxB, hbxB⟩
      have HSxB := Lib.hid (HSoA.out.trans (hbxB.mono HSoA.out.size))
      have HBXxB := Lib.hid (HBXoA.out.below hbxB HBXoA.out.lt)
      have HRXB := Lib.hid hrxB
      have HVXB := Lib.hid hvxB
      have HLTB := Lib.hid HBXoA.out.lt
      clear hrxB hvxB hbxB
      go_wp2_with fail
      refine (RLeaveNodes_any _ l n xB ((HAT.out _ HSxB.out).rl.more (HAT.out _ HSxB.out).b.size) hl).mono ?_
      rintro e yB ⟨vyB, rfl, hvyB, hbyB⟩
      generalize leaveErr l n = qB at *
      have hln := len_leaveRes l n hl
      generalize leaveRes l n = LB at *
      have hSy := HSxB.out.trans (hbyB.mono HSxB.out.size)
      have hbox := HBXxB.out.below hbyB HBXxB.out.lt
      have hS := below_set2 hSy (b := fb) HFX.out (.int .i64 qB.1) (.int .i64 qB.2)
      have hvx := (((HVXB.out.below hbyB).set ⟨fb, 0, none⟩ HLTB.out (.int .i64 qB.1)).set ⟨fb, 1, none⟩ HLTB.out (.int .i64 qB.2)).rd
      have hvy := ((hvyB.set ⟨fb, 0, none⟩ HBXxB.out.lt (.int .i64 qB.1)).set ⟨fb, 1, none⟩ HBXxB.out.lt (.int .i64 qB.2)).rd
      have hr := (HRXB.out.below hbyB).set2 hbox qB.1 qB.2
      have hbox2 := hbox.set qB.1 qB.2
      obtain ⟨t0, t1, t2⟩ := hbox.box.rd (.int .i64 qB.1) (.int .i64 qB.2)
      obtain ⟨d0, d1, f0, f1⟩ := hbox.box
      have HSzB := Lib.hid hS
      have HVxB := Lib.hid hvx
      have HVyB := Lib.hid hvy
      have HRzB := Lib.hid hr
      have HBXzB := Lib.hid hbox2
      clear hSy hbox hS hvx hvy hr hbox2 hvyB hbyB HVXB HRXB
      go_wp2_with fail
      generalize (yB.setCell ⟨fb, 0, none⟩ (.int .i64 qB.1)).setCell ⟨fb, 1, none⟩ (.int .i64 qB.2) = ZB at *
      refine (faulted2_same a rxB qB.1 qB.2 ZB (HAT.out _ HSzB.out).t HRzB.out).mono ?_
      rintro e uB ⟨rfl, huB⟩
      have HSuB := Lib.hid (HSzB.out.trans (huB.mono HSzB.out.size))
      have HBXuB := Lib.hid (HBXzB.out.below huB HBXzB.out.lt)
      have HVxuB := Lib.hid (HVxB.out.below huB)
      have HVyuB := Lib.hid (HVyB.out.below huB)
      clear huB t0 t1 t2 d0 d1 f0 f1
      go_wp2_with fail
      refine (SameInts_any _ _ LB LB ZB.heap.size uB HVxuB.out HVyuB.out hln hln).mono ?_
      rintro e sB ⟨rfl, jB, rfl⟩
      have HSoB := Lib.hid (below_drewN HSuB.out jB)
      have hqqB : decide (LB = LB) = true := decide_eq_true rfl
      rw [hqqB]
      have HBXoB : Hid (FBox fb qB.1 qB.2 (uB.drewN jB)) := Lib.hid ⟨HBXuB.out.box.drewN jB, HBXuB.out.ends⟩
      clear hqqB
      go_wp2_with fail
      refine (SameInts_any _ _ l l X.heap.size _ (HAT.out _ HSoB.out).ro ((HAT.out _ HSoB.out).rl.more HT.out.b.size) (by omega) (by omega)).mono ?_
      rintro e s9 ⟨rfl, j9, rfl⟩
      have hq9 : decide (l = l) = true := decide_eq_true rfl
      rw [hq9]
      have HSz9 := Lib.hid (below_drewN HSoB.out j9)
      have hend := (HAT.out _ HSz9.out).b
      go_wp2
      go_ret
      exact ⟨rfl, by simpa using hend⟩
end Go.Proofs.YtpacalklcdlhoaaGreatDoor

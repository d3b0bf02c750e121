/- TrA, RcO, TrC, Hel2, TrD, TrK in one text. Conditions: as each part says. -/
import Derived.Test.YtbokckjlgjnnjaaGreatDoorEnt
import Derived.OwnWalk
import Derived.BigQuiet
import Derived.Test.YtbokckjlgjnnjaaGreatDoorIds
import Derived.Test.YtbokckjlgjnnjaaGreatDoorAppM
import Derived.Test.YtbokckjlgjnnjaaGreatDoorHeld
import Derived.Maps.AppendAt
import Derived.Lib.SmallJoins
import Derived.RangeFuncKeeps
import Derived.RangeFuncMany
import Derived.RangeFuncLeaves
import Derived.OwnWalkIn
import Derived.TacticsInMore
import Derived.RegionIn
import Derived.LoopNIn
import Derived.LoopIn
/- Trails: walks of recipe.Bare, right and Check. Condition: the sentinels that are read lie as named. -/
namespace Go.Proofs.YtbokckjlgjnnjaaGreatDoor
open Go.RowKit Go.Lib

theorem Tr.noFaultN (xT : TypeId) (w : World) : (Instr.typeAssert .nilIface xT 85 true).run Tryz.prog w = .ok (.tuple #[.pointer none, .bool false]) w := by kernel_rfl
theorem Tr.noFaultE (v : Value) (xT : TypeId) (w : World) : (Instr.typeAssert (.iface 265 v) xT 85 true).run Tryz.prog w = .ok (.tuple #[.pointer none, .bool false]) w := by kernel_rfl
theorem Tr.isFault (v : Value) (xT : TypeId) (w : World) : (Instr.typeAssert (.iface 85 v) xT 85 true).run Tryz.prog w = .ok (.tuple #[v, .bool true]) w := by kernel_rfl
set_option maxRecDepth 100000 in
theorem RcBare_any (a : Nat → Addr) (v : Value) (c t : Int) (w : World) (he : EV a v c t w) :
    Calls Tryz.prog 83 #[v] w fun e w' => ∃ x, e = .returned x ∧ ES a x c ∧ Below w.heap.size w w' := by
  have t1 := Tr.noFaultN
  have t2 := Tr.noFaultE
  have t3 := Tr.isFault
  rcases he with ⟨rfl, rfl, rfl⟩ | ⟨k, hk, rfl, rfl, rfl⟩ | ⟨k, b, o, hk, rfl, rfl, h0, h1⟩
  · go_enter Tryz.func83, Tryz.ntmps83
    go_wp2
    go_ret
    exact ⟨_, rfl, ES.none a, Below.refl _ _⟩
  · unfold sval
    go_enter Tryz.func83, Tryz.ntmps83
    go_wp2
    go_ret
    exact ⟨_, rfl, ES.sent a k hk, Below.refl _ _⟩
  · unfold sval at h1
    go_enter Tryz.func83, Tryz.ntmps83
    go_wp2
    go_ret
    exact ⟨_, rfl, ES.sent a k hk, Below.refl _ _⟩
def RightPost (a : Nat → Addr) (c : Int) (w : World) (e : Ending) (w' : World) : Prop := ∃ x, e = .returned x ∧ ES a x c ∧ Below w.heap.size w w'
theorem entErr_a {e : Ent} {was : Int} (h : e.day < 0) : entErr e was = 2 := if_pos h
theorem entErr_b {e : Ent} {was : Int} (h : ¬ e.day < 0) (h2 : e.day < was) : entErr e was = 8 := (if_neg h).trans (if_pos h2)
theorem entErr_c {e : Ent} {was : Int} (h : ¬ e.day < 0) (h2 : ¬ e.day < was) : entErr e was = (rcpFault e.r).1 := (if_neg h).trans (if_neg h2)
theorem SomeS.sub {ks js : List Nat} {a : Nat → Addr} {w : World} (h : SomeS ks a w) (hs : ∀ k ∈ js, k ∈ ks) : SomeS js a w := fun k hk => h k (hs k hk)
set_option maxRecDepth 100000 in
set_option maxHeartbeats 1000000 in
theorem TRight_any (a : Nat → Addr) (v : Value) (l : EntL) (hb : ∀ e ∈ l, RcpB e.r) (k : Nat) (hk : k < l.length) (hl : l.length ≤ 1000000) (w : World) (hv : RdT w w.heap.size v l) (hs : SomeS [1, 2, 3, 6, 7, 8] a w) :
    Calls Tryz.prog 47 #[v, .int .i64 k] w (RightPost a (entErr l[k] (wasAt l k)) w) := by
  obtain ⟨A, c, rfl, hlc, S, hS, hx⟩ := hv.form
  obtain ⟨g, o, rfl, hg, hcell⟩ := hx (by omega)
  obtain ⟨c0, c1, c2, c3, c4⟩ := hcell k hk
  have hrec : RcpV w w.heap.size (rcpAgg l[k].r (S k)) l[k].r := ⟨S k, rfl, hS k hk⟩
  have hs' := hs.sub (js := [1, 2, 3, 6, 8]) (by decide)
  have HCK := Lib.hid (fun w' (h : Below w.heap.size w w') => RcCheck_any a _ l[k].r (hb _ (List.getElem_mem hk)) w' (hrec.below h) (hs'.below h))
  have s2 : w.cell? ⟨1, 0, none⟩ = some (sval a 1) := hs 1 (by decide)
  have s8 : w.cell? ⟨7, 0, none⟩ = some (sval a 7) := hs 7 (by decide)
  unfold sval at s2 s8
  have b1 : (0 : Int) ≤ (k : Int) := by omega
  have b2 : (k : Int) < (l.length : Int) := by omega
  have HC := Lib.hid hcell
  clear hS hx hcell hrec hs' hs hv
  by_cases h1 : l[k].day < 0
  · have HE := Lib.hid (entErr_a (was := wasAt l k) h1)
    go_enter Tryz.func47, Tryz.ntmps47
    go_wp2
    go_ret
    exact ⟨_, rfl, by rw [HE.out]; exact ES.sent a 1 (by decide), Below.refl _ _⟩
  · by_cases hk0 : k = 0
    · subst hk0
      simp only [Nat.zero_mul, Nat.add_zero] at c0 c1 c2 c3 c4
      have HE := Lib.hid (entErr_c (was := wasAt l 0) h1 h1)
      go_enter Tryz.func47, Tryz.ntmps47
      go_wp2
      go_quiet (fail)
      go_wp2_with fail
      refine (HCK.out _ (below_drewN (Below.refl _ _) _)).mono ?_
      rintro e w1 ⟨x1, rfl, hev, hb1⟩
      go_wp2_with fail
      refine (RcBare_any a x1 _ _ w1 hev).mono ?_
      rintro e w2 ⟨x2, rfl, hes, hb2⟩
      have hb3 := (below_drewN (Below.refl w.heap.size w) _).trans (hb1.mono (below_drewN (Below.refl w.heap.size w) _).size)
      go_wp2
      go_ret
      exact ⟨_, rfl, by rw [HE.out]; exact hes, hb3.trans (hb2.mono hb3.size)⟩
    · have hp : 0 < k := by omega
      obtain ⟨d0, _⟩ := HC.out (k - 1) (by omega)
      have hwas : wasAt l k = l[k - 1].day := by obtain ⟨j, rfl⟩ := Nat.exists_eq_add_of_lt hp; simpa using wasAt_succ (l := l) (k := j) (by omega)
      by_cases h2 : l[k].day < l[k - 1].day
      · have HE := Lib.hid (entErr_b (was := wasAt l k) h1 (by rw [hwas]; exact h2))
        clear hwas
        go_enter Tryz.func47, Tryz.ntmps47
        go_wp2
        go_quiet (fail)
        go_wp2
        go_ret
        exact ⟨_, rfl, by rw [HE.out]; exact ES.sent a 7 (by decide), below_drewN (Below.refl _ _) _⟩
      · have HE := Lib.hid (entErr_c (was := wasAt l k) h1 (by rw [hwas]; exact h2))
        clear hwas
        go_enter Tryz.func47, Tryz.ntmps47
        go_wp2
        go_quiet (fail)
        go_wp2_with fail
        refine (HCK.out _ (below_drewN (Below.refl _ _) _)).mono ?_
        rintro e w1 ⟨x1, rfl, hev, hb1⟩
        go_wp2_with fail
        refine (RcBare_any a x1 _ _ w1 hev).mono ?_
        rintro e w2 ⟨x2, rfl, hes, hb2⟩
        have hb3 := (below_drewN (Below.refl w.heap.size w) _).trans (hb1.mono (below_drewN (Below.refl w.heap.size w) _).size)
        go_wp2
        go_ret
        exact ⟨_, rfl, by rw [HE.out]; exact hes, hb3.trans (hb2.mono hb3.size)⟩
def TCheckPost (a : Nat → Addr) (l : EntL) (w : World) (e : Ending) (w' : World) : Prop := ∃ x, e = .returned x ∧ EV a x (trailFault l).1 (trailFault l).2 w' ∧ Below w.heap.size w w'
set_option maxRecDepth 100000 in
set_option maxHeartbeats 1000000 in
theorem TCheck_any (a : Nat → Addr) (v : Value) (l : EntL) (hb : ∀ e ∈ l, RcpB e.r) (hl : l.length ≤ 1000000) (w : World) (hv : RdT w w.heap.size v l) (hs : SomeS [1, 2, 3, 6, 7, 8] a w) :
    Calls Tryz.prog 10 #[v] w (TCheckPost a l w) := by
  have s7 : w.cell? ⟨0, 0, none⟩ = some (sval a 6) := hs 6 (by decide)
  unfold sval at s7
  obtain ⟨A, c, hvA, _⟩ := hv.form
  subst hvA
  have RT := Lib.hid (fun (k : Nat) (hk : k < l.length) w' (h : Below w.heap.size w w') => TRight_any a _ l hb k hk hl w' (RdT.more (hv.keep h (Nat.le_refl _)) h.size) (hs.below h))
  clear hv hs
  by_cases h1 : 40 < l.length
  · have h1i : 40 < (l.length : Int) := by omega
    have HE : Hid (trailFault l = (7, -1)) := Lib.hid (if_pos h1)
    clear h1
    go_enter Tryz.func10, Tryz.ntmps10
    go_wp2
    go_ret
    exact ⟨_, rfl, by rw [HE.out]; exact EV.sent a w 6 (by decide), Below.refl _ _⟩
  · have h1i : ¬ 40 < (l.length : Int) := by omega
    have HE : Hid (trailFault l = trailFrom 0 (wasAt l 0) (l.drop 0)) := Lib.hid (if_neg h1)
    clear h1
    go_enter Tryz.func10, Tryz.ntmps10
    go_wp2
    go_loopg [11] l.length (fun gh vi wr => ∃ k : Nat, vi = .int .i64 k ∧ k ≤ l.length ∧ gh = l.length - k ∧ Hid (trailFault l = trailFrom k (wasAt l k) (l.drop k)) ∧ Below w.heap.size w wr)
    case atStart => exact ⟨0, rfl, Nat.zero_le _, rfl, HE, Below.refl _ _⟩
    case round =>
      obtain ⟨k, rfl, hk, hgm, hI, hB⟩ := hrel
      by_cases hkl : k < l.length
      · have b1 : (0 : Int) ≤ (k : Int) := by omega
        have b2 : (k : Int) < (l.length : Int) := by omega
        have HB := Lib.hid hB
        clear hB
        go_wp2_with fail
        refine (RT.out k hkl wr HB.out).mono ?_
        rintro e w1 ⟨x, rfl, hes, hb1⟩
        have HB1 := Lib.hid (HB.out.trans (hb1.mono HB.out.size))
        by_cases he : entErr l[k] (wasAt l k) = 0
        · have hI' : Hid (trailFault l = trailFrom (k + 1) (wasAt l (k + 1)) (l.drop (k + 1))) := Lib.hid (hI.out.trans (trail_next hkl he))
          obtain ⟨rfl, _⟩ := hes.nil he
          clear hes he hI hb1
          go_wp2
          go_roundg (l.length - (k + 1))
          case measure => omega
          case rel => exact ⟨k + 1, by go_num, hkl, rfl, hI', HB1.out⟩
        · have hI' : Hid (trailFault l = (entErr l[k] (wasAt l k), (k : Int))) := Lib.hid (hI.out.trans (trail_hit hkl he))
          rcases hes with ⟨_, hc⟩ | ⟨j, hj, rfl, hc⟩
          · exact absurd hc he
          · have HC := Lib.hid hc
            unfold sval
            clear hc he hI hb1
            go_wp2
            go_ret
            exact ⟨_, rfl, by rw [hI'.out, HC.out]; exact EV_mk a w1 j hj _ _, HB1.out.alloc HB1.out.size _⟩
      · obtain rfl : k = l.length := by omega
        have hI' : Hid (trailFault l = (0, -1)) := Lib.hid (hI.out.trans (trail_end l))
        have HB := Lib.hid hB
        clear hB hI hkl
        go_wp2
        go_ret
        exact ⟨_, rfl, by rw [hI'.out]; exact EV.none a wr, HB.out⟩
end Go.Proofs.YtbokckjlgjnnjaaGreatDoor
/- Walks of the law's LongRecipe, OwnRecipe. No conditions but bounds. -/
namespace Go.Proofs.YtbokckjlgjnnjaaGreatDoor
open Go.RowKit Go.Lib

def longR (r : Rcp) : Int := if 30 < r.name.length ∨ (60 < r.ids.length ∧ r.ids.length ≠ 251) then 1 else 0
set_option maxRecDepth 100000 in
theorem LongRecipe_any (v : Value) (r : Rcp) (hn : r.name.length ≤ maxLen) (hc : r.ids.length ≤ maxLen) (B : Nat) (w : World) (hv : RcpV w B v r) :
    Calls Tryz.prog 16 #[v] w fun e w' => e = .returned (.int .i64 (longR r)) ∧ Below w.heap.size w w' := by
  obtain ⟨sl, rfl, hrd⟩ := hv
  obtain ⟨A, c, rfl, _, _⟩ := hrd.form
  have hb0 : Below w.heap.size w (w.alloc (.cells #[VT r.name, .int .i64 r.len, .int .u32 (r.print : Int), .slice A r.ids.length c] 36)) := (Below.refl _ w).alloc (Nat.le_refl _) _
  obtain ⟨c0, c1, c2, c3, _⟩ : Box4 w.heap.size (VT r.name) (.int .i64 r.len) (.int .u32 (r.print : Int)) (.slice A r.ids.length c) (w.alloc (.cells #[VT r.name, .int .i64 r.len, .int .u32 (r.print : Int), .slice A r.ids.length c] 36)) := Box4.mk' _ _ _ _ _ _
  have HZ := Lib.hid (bs_size r.name)
  have hz1 : (bs r.name).size ≤ maxLen := by rw [HZ.out]; exact hn
  unfold maxLen at hz1 hc
  have HB0 := Lib.hid hb0
  clear hrd hb0 hn
  by_cases h1 : 30 < r.name.length
  · have h1i : ((bs r.name).size : Int) > 30 := by rw [HZ.out]; omega
    have HR : Hid (longR r = 1) := Lib.hid (if_pos (.inl h1))
    clear h1
    go_enter Tryz.func16, Tryz.ntmps16
    go_wp2
    go_ret
    exact ⟨by rw [HR.out]; rfl, HB0.out⟩
  · have h1i : ¬ ((bs r.name).size : Int) > 30 := by rw [HZ.out]; omega
    by_cases h2 : 60 < r.ids.length
    · have h2i : (r.ids.length : Int) > 60 := by omega
      by_cases h3 : r.ids.length = 251
      · have h3i : ((r.ids.length : Int) != 251) = false := by rw [h3]; rfl
        have HR : Hid (longR r = 0) := Lib.hid (if_neg (by omega))
        clear h1 h2 h3
        go_enter Tryz.func16, Tryz.ntmps16
        go_wp2
        go_ret
        exact ⟨by rw [HR.out]; rfl, HB0.out⟩
      · have h3i : ((r.ids.length : Int) != 251) = true := by simp; omega
        have HR : Hid (longR r = 1) := Lib.hid (if_pos (.inr ⟨h2, h3⟩))
        clear h1 h2 h3
        go_enter Tryz.func16, Tryz.ntmps16
        go_wp2
        go_ret
        exact ⟨by rw [HR.out]; rfl, HB0.out⟩
    · have h2i : ¬ (r.ids.length : Int) > 60 := by omega
      have HR : Hid (longR r = 0) := Lib.hid (if_neg (by omega))
      clear h1 h2
      go_enter Tryz.func16, Tryz.ntmps16
      go_wp2
      go_ret
      exact ⟨by rw [HR.out]; rfl, HB0.out⟩
theorem Box4.setFar {b d j : Nat} {x y z u : Value} {w : World} (h : Box4 b x y z u w) (hd : b ≠ d) (v : Value) : Box4 b x y z u (w.setCell ⟨d, j, none⟩ v) :=
  have hne : ∀ i, (⟨d, j, none⟩ : Addr) ≠ ⟨b, i, none⟩ := fun i e => by injection e with e _; exact hd e.symm
  ⟨(World.cell?_setCell_other _ _ _ _ (hne 0)).trans h.c0, (World.cell?_setCell_other _ _ _ _ (hne 1)).trans h.c1, (World.cell?_setCell_other _ _ _ _ (hne 2)).trans h.c2, (World.cell?_setCell_other _ _ _ _ (hne 3)).trans h.c3, fun i => by rw [World.frozen?_setCell]; exact h.f i⟩
set_option maxRecDepth 100000 in
set_option maxHeartbeats 1000000 in
theorem OwnRecipe_any (v : Value) (r : Rcp) (hc : r.ids.length ≤ 1000000) (w : World) (hv : RcpV w w.heap.size v r) :
    Calls Tryz.prog 20 #[v] w fun e w' => ∃ v', e = .returned v' ∧ RcpW w' w.heap.size w'.heap.size v' r ∧ Below w.heap.size w w' := by
  obtain ⟨i0, hi, hz0, hz1, hz2⟩ := info_parts info_idI
  obtain ⟨sl, rfl, hrd⟩ := hv
  obtain ⟨A, c, rfl, _, _⟩ := hrd.form
  have hb0 : Below w.heap.size w ((w.alloc (.cells #[VT r.name, .int .i64 r.len, .int .u32 (r.print : Int), .slice A r.ids.length c] 36)).alloc (.cells #[.string ⟨#[]⟩, .int .i64 0, .int .u32 0, .slice none 0 0] 36)) := ((Below.refl _ w).alloc (Nat.le_refl _) _).alloc (by simp) _
  have hbx : Box4 w.heap.size (VT r.name) (.int .i64 r.len) (.int .u32 (r.print : Int)) (.slice A r.ids.length c) ((w.alloc (.cells #[VT r.name, .int .i64 r.len, .int .u32 (r.print : Int), .slice A r.ids.length c] 36)).alloc (.cells #[.string ⟨#[]⟩, .int .i64 0, .int .u32 0, .slice none 0 0] 36)) := (Box4.mk' w _ _ _ _ _).below ((Below.refl (w.alloc _).heap.size (w.alloc _)).alloc (Nat.le_refl _) _) (by simp)
  have hbr : Box4 (w.heap.size + 1) (.string ⟨#[]⟩) (.int .i64 0) (.int .u32 0) (.slice none 0 0) ((w.alloc (.cells #[VT r.name, .int .i64 r.len, .int .u32 (r.print : Int), .slice A r.ids.length c] 36)).alloc (.cells #[.string ⟨#[]⟩, .int .i64 0, .int .u32 0, .slice none 0 0] 36)) := by
    have := Box4.mk' (w.alloc (.cells #[VT r.name, .int .i64 r.len, .int .u32 (r.print : Int), .slice A r.ids.length c] 36)) (.string ⟨#[]⟩) (.int .i64 0) (.int .u32 0) (.slice none 0 0) 36
    simpa using this
  have HRD := Lib.hid (hrd.keep hb0 (Nat.le_refl _))
  have HB0 := Lib.hid hb0
  have HBR := Lib.hid hbr
  have HBX := Lib.hid hbx
  have hlt := hbr.lt
  have c03 := hbx.c3
  clear hrd hb0 hbx hbr
  have HSZ : Hid (((w.alloc (.cells #[VT r.name, .int .i64 r.len, .int .u32 (r.print : Int), .slice A r.ids.length c] 36)).alloc (.cells #[.string ⟨#[]⟩, .int .i64 0, .int .u32 0, .slice none 0 0] 36)).heap.size = w.heap.size + 2) := Lib.hid (by simp)
  go_enter Tryz.func20, Tryz.ntmps20
  go_wp2_with (first | (at_builtin; refine wpList_append_rdM rfl (.tmp 4) (.tmp 6) 34 rfl ((w.alloc (.cells #[VT r.name, .int .i64 r.len, .int .u32 (r.print : Int), .slice A r.ids.length c] 36)).alloc (.cells #[.string ⟨#[]⟩, .int .i64 0, .int .u32 0, .slice none 0 0] 36)).heap.size 71 i0 (.agg #[.int .u32 0, .int .i64 0]) 2 16 Tryz.underlying34 hi hz0 hz1 hz2 rfl (by decide) _ 0 [] rfl (World.ownsRow_nil _ _ _ _) w.heap.size _ r.ids.length (idRow r.ids) rfl HRD.out (idRow_one _) (by unfold maxLen; omega) (by omega) (Nat.le_refl _) ?_; intro v5 w5 ho5 hg5; have HS5 := Lib.hid ((Below.refl ((w.alloc (.cells #[VT r.name, .int .i64 r.len, .int .u32 (r.print : Int), .slice A r.ids.length c] 36)).alloc (.cells #[.string ⟨#[]⟩, .int .i64 0, .int .u32 0, .slice none 0 0] 36)).heap.size _).grown hg5 (Nat.le_refl _) (fun j hj => by cases hj)); have HO5 := Lib.hid ho5; obtain ⟨A5, c5, hv5⟩ := own_formI ho5; subst hv5; have hbx5 := HBX.out.below HS5.out HBX.out.lt; have hbr5 := HBR.out.below HS5.out HBR.out.lt; have HBX5 := Lib.hid hbx5; have HBR5 := Lib.hid hbr5; have d0 := hbx5.c0; have d1 := hbx5.c1; have d2 := hbx5.c2; have d3 := hbx5.c3; have f3 := hbx5.f 3; have e0 := hbr5.c0; have e1 := hbr5.c1; have e2 := hbr5.c2; have e3 := hbr5.c3; have g0 := hbr5.f 0; have g1 := hbr5.f 1; have g2 := hbr5.f 2; have g3 := hbr5.f 3; clear hbx5 hbr5 ho5 hg5 c03 hlt) | fail)
  have hz : w5.heap.size ≥ w.heap.size + 2 := by have := HS5.out.size; rw [HSZ.out] at this; exact this
  have HO6 := Lib.hid (own_setI (d := w.heap.size) (j := 3) (x := .slice A5 r.ids.length c5) HO5.out (by rw [HSZ.out]; omega))
  have HO7 := Lib.hid (own_set4 HO6.out (b := w.heap.size + 1) (by rw [HSZ.out]; omega) (VT r.name) (.int .i64 r.len) (.int .u32 (r.print : Int)) (.slice A5 r.ids.length c5))
  have HB7 := Lib.hid (below_set4 (((HB0.out.trans (HS5.out.mono HB0.out.size)).setCell (p := ⟨w.heap.size, 3, none⟩) (Nat.le_refl _) (.slice A5 r.ids.length c5))) (b := w.heap.size + 1) (by omega) (VT r.name) (.int .i64 r.len) (.int .u32 (r.print : Int)) (.slice A5 r.ids.length c5))
  have HP : Hid (RcpW (((((w5.setCell ⟨w.heap.size, 3, none⟩ (.slice A5 r.ids.length c5)).setCell ⟨w.heap.size + 1, 0, none⟩ (VT r.name)).setCell ⟨w.heap.size + 1, 1, none⟩ (.int .i64 r.len)).setCell ⟨w.heap.size + 1, 2, none⟩ (.int .u32 (r.print : Int))).setCell ⟨w.heap.size + 1, 3, none⟩ (.slice A5 r.ids.length c5)) w.heap.size (((((w5.setCell ⟨w.heap.size, 3, none⟩ (.slice A5 r.ids.length c5)).setCell ⟨w.heap.size + 1, 0, none⟩ (VT r.name)).setCell ⟨w.heap.size + 1, 1, none⟩ (.int .i64 r.len)).setCell ⟨w.heap.size + 1, 2, none⟩ (.int .u32 (r.print : Int))).setCell ⟨w.heap.size + 1, 3, none⟩ (.slice A5 r.ids.length c5)).heap.size (.agg #[VT r.name, .int .i64 r.len, .int .u32 (r.print : Int), .slice A5 r.ids.length c5]) r) := Lib.hid ⟨_, rfl, (RdB.own (by simpa using HO7.out) rfl).wide (by omega) (Nat.le_refl _)⟩
  obtain ⟨x0, x1, x2, x3, _⟩ := (HBR5.out.setFar (d := w.heap.size) (j := 3) (by omega) (.slice A5 r.ids.length c5)).set (VT r.name) (.int .i64 r.len) (.int .u32 (r.print : Int)) (.slice A5 r.ids.length c5)
  refine bodyPost_ret (v := .agg #[VT r.name, .int .i64 r.len, .int .u32 (r.print : Int), .slice A5 r.ids.length c5]) (by simp [results, Tryz.results20, go_sem, x0, x1, x2, x3]) rfl ?_
  exact ⟨_, rfl, HP.out, HB7.out⟩
end Go.Proofs.YtbokckjlgjnnjaaGreatDoor
/- Trails: walks of slices.Clone (IDs, entries) and copied. No conditions but bounds. -/
namespace Go.Proofs.YtbokckjlgjnnjaaGreatDoor
open Go.RowKit Go.Lib

theorem Tr.nilI (n c : Nat) (w : World) : (binOp BinOp.eql 34 (.slice none n c) (.slice none 0 0)).run Tryz.prog w = .ok (.bool true) w := by kernel_rfl
theorem Tr.someI (a : Addr) (n c : Nat) (w : World) : (binOp BinOp.eql 34 (.slice (some a) n c) (.slice none 0 0)).run Tryz.prog w = .ok (.bool false) w := by kernel_rfl
theorem Tr.nilE (n c : Nat) (w : World) : (binOp BinOp.eql 25 (.slice none n c) (.slice none 0 0)).run Tryz.prog w = .ok (.bool true) w := by kernel_rfl
theorem Tr.someE (a : Addr) (n c : Nat) (w : World) : (binOp BinOp.eql 25 (.slice (some a) n c) (.slice none 0 0)).run Tryz.prog w = .ok (.bool false) w := by kernel_rfl
theorem own_none (w : World) (e : TypeId) (size : Nat) : (w.alloc (.cells #[] e)).ownsRow w.heap.size e size (.slice (some ⟨w.heap.size, 0, none⟩) 0 0) 0 [] :=
  ⟨by simp, .inr ⟨w.heap.size, 0, #[], rfl, Nat.le_refl _, heap_alloc_new w _, Nat.le_refl _, Nat.zero_le _, by simp, by simp⟩⟩
set_option maxRecDepth 100000 in
set_option maxHeartbeats 1000000 in
theorem ClnI_any (v : Value) (L : IdL) (hL : L.length ≤ 1000000) (w : World) (hv : RdI w w.heap.size v L) :
    Calls Tryz.prog 85 #[v] w fun e w' => ∃ v', e = .returned v' ∧ RdB w' w.heap.size w'.heap.size v' L ∧ Below w.heap.size w w' := by
  obtain ⟨i0, hi, hz0, hz1, hz2⟩ := info_parts info_idI
  have hb0 : Below w.heap.size w (w.alloc (.cells #[] 71)) := (Below.refl _ w).alloc (Nat.le_refl _) _
  have HV := Lib.hid (hv.below hb0)
  obtain ⟨A, c, hvA⟩ := hv.slice
  have q1 := Tr.nilI
  have q2 := Tr.someI
  cases A with
  | none =>
    have h0 : L = [] := by
      obtain ⟨A, c', he, _, _, hx⟩ := hv
      by_cases hz : 0 < L.length
      · obtain ⟨g, o, hA, _⟩ := hx hz
        rw [hvA] at he
        injection he with e1
        rw [hA] at e1
        cases e1
      · exact List.length_eq_zero_iff.1 (by omega)
    subst h0
    subst hvA
    clear hv HV
    go_enter Tryz.func85, Tryz.ntmps85
    go_wp2
    go_ret
    exact ⟨_, rfl, RdB.nil _ _ _, Below.refl _ _⟩
  | some a =>
    subst hvA
    clear hv
    have HB0 := Lib.hid hb0
    have HO := Lib.hid (own_none w 71 2)
    clear hb0
    go_enter Tryz.func85, Tryz.ntmps85
    go_wp2_with (first | (at_builtin; refine wpList_append_rdM rfl (.tmp 5) (.tmp 6) 34 rfl w.heap.size 71 i0 (.agg #[.int .u32 0, .int .i64 0]) 2 16 Tryz.underlying34 hi hz0 hz1 hz2 rfl (by decide) _ 0 [] rfl HO.out w.heap.size _ L.length (idRow L) rfl HV.out (idRow_one _) (by unfold maxLen; omega) (by omega) HB0.out.size ?_; intro v5 w5 ho5 hg5) | fail)
    have HB5 := Lib.hid (HB0.out.grown hg5 HB0.out.size (fun j hj => by cases hj; exact Nat.le_refl _))
    have HO5 := Lib.hid ho5
    clear ho5 hg5
    go_wp2
    go_ret
    exact ⟨_, rfl, RdB.own (by simpa using HO5.out) rfl, HB5.out⟩
set_option maxRecDepth 100000 in
set_option maxHeartbeats 1000000 in
theorem TCopied_any (v : Value) (r : Rcp) (hc : r.ids.length ≤ 1000000) (w : World) (hv : RcpV w w.heap.size v r) :
    Calls Tryz.prog 49 #[v] w fun e w' => ∃ v', e = .returned v' ∧ RcpW w' w.heap.size w'.heap.size v' r ∧ Below w.heap.size w w' := by
  obtain ⟨sl, rfl, hrd⟩ := hv
  obtain ⟨A, c, rfl⟩ := hrd.slice
  have hb0 : Below w.heap.size w ((w.alloc (.cells #[VT r.name, .int .i64 r.len, .int .u32 (r.print : Int), .slice A r.ids.length c] 36)).alloc (.cells #[.string ⟨#[]⟩, .int .i64 0, .int .u32 0, .slice none 0 0] 36)) := ((Below.refl _ w).alloc (Nat.le_refl _) _).alloc (by simp) _
  have hbx : Box4 w.heap.size (VT r.name) (.int .i64 r.len) (.int .u32 (r.print : Int)) (.slice A r.ids.length c) ((w.alloc (.cells #[VT r.name, .int .i64 r.len, .int .u32 (r.print : Int), .slice A r.ids.length c] 36)).alloc (.cells #[.string ⟨#[]⟩, .int .i64 0, .int .u32 0, .slice none 0 0] 36)) := (Box4.mk' w _ _ _ _ _).below ((Below.refl (w.alloc _).heap.size (w.alloc _)).alloc (Nat.le_refl _) _) (by simp)
  have hbr : Box4 (w.heap.size + 1) (.string ⟨#[]⟩) (.int .i64 0) (.int .u32 0) (.slice none 0 0) ((w.alloc (.cells #[VT r.name, .int .i64 r.len, .int .u32 (r.print : Int), .slice A r.ids.length c] 36)).alloc (.cells #[.string ⟨#[]⟩, .int .i64 0, .int .u32 0, .slice none 0 0] 36)) := by
    have := Box4.mk' (w.alloc (.cells #[VT r.name, .int .i64 r.len, .int .u32 (r.print : Int), .slice A r.ids.length c] 36)) (.string ⟨#[]⟩) (.int .i64 0) (.int .u32 0) (.slice none 0 0) 36
    simpa using this
  have CL := Lib.hid (ClnI_any _ r.ids hc ((w.alloc (.cells #[VT r.name, .int .i64 r.len, .int .u32 (r.print : Int), .slice A r.ids.length c] 36)).alloc (.cells #[.string ⟨#[]⟩, .int .i64 0, .int .u32 0, .slice none 0 0] 36)) ((hrd.keep hb0 (Nat.le_refl _)).more hb0.size))
  have HB0 := Lib.hid hb0
  have HBR := Lib.hid hbr
  have HBX := Lib.hid hbx
  have c03 := hbx.c3
  have hlt := hbr.lt
  have HSZ : Hid (((w.alloc (.cells #[VT r.name, .int .i64 r.len, .int .u32 (r.print : Int), .slice A r.ids.length c] 36)).alloc (.cells #[.string ⟨#[]⟩, .int .i64 0, .int .u32 0, .slice none 0 0] 36)).heap.size = w.heap.size + 2) := Lib.hid (by simp)
  clear hrd hb0 hbx hbr
  go_enter Tryz.func49, Tryz.ntmps49
  go_wp2_with fail
  refine CL.out.mono ?_
  rintro e w5 ⟨v5, rfl, hr5, hb5⟩
  obtain ⟨A5, c5, rfl⟩ := hr5.rd.slice
  have HS5 := Lib.hid hb5
  have HR5 := Lib.hid hr5
  have hbx5 := HBX.out.below hb5 HBX.out.lt
  have hbr5 := HBR.out.below hb5 HBR.out.lt
  have HBX5 := Lib.hid hbx5
  have HBR5 := Lib.hid hbr5
  have d0 := hbx5.c0
  have d1 := hbx5.c1
  have d2 := hbx5.c2
  have d3 := hbx5.c3
  have f3 := hbx5.f 3
  have e0 := hbr5.c0
  have e1 := hbr5.c1
  have e2 := hbr5.c2
  have e3 := hbr5.c3
  have g0 := hbr5.f 0
  have g1 := hbr5.f 1
  have g2 := hbr5.f 2
  have g3 := hbr5.f 3
  clear hbx5 hbr5 hr5 hb5 c03 hlt
  go_wp2
  have hz : w5.heap.size ≥ w.heap.size + 2 := by have := HS5.out.size; rw [HSZ.out] at this; exact this
  have HB7 := Lib.hid (below_set4 (((HB0.out.trans (HS5.out.mono HB0.out.size)).setCell (p := ⟨w.heap.size, 3, none⟩) (Nat.le_refl _) (.slice A5 r.ids.length c5))) (b := w.heap.size + 1) (by omega) (VT r.name) (.int .i64 r.len) (.int .u32 (r.print : Int)) (.slice A5 r.ids.length c5))
  have HP : Hid (RcpW (((((w5.setCell ⟨w.heap.size, 3, none⟩ (.slice A5 r.ids.length c5)).setCell ⟨w.heap.size + 1, 0, none⟩ (VT r.name)).setCell ⟨w.heap.size + 1, 1, none⟩ (.int .i64 r.len)).setCell ⟨w.heap.size + 1, 2, none⟩ (.int .u32 (r.print : Int))).setCell ⟨w.heap.size + 1, 3, none⟩ (.slice A5 r.ids.length c5)) w.heap.size (((((w5.setCell ⟨w.heap.size, 3, none⟩ (.slice A5 r.ids.length c5)).setCell ⟨w.heap.size + 1, 0, none⟩ (VT r.name)).setCell ⟨w.heap.size + 1, 1, none⟩ (.int .i64 r.len)).setCell ⟨w.heap.size + 1, 2, none⟩ (.int .u32 (r.print : Int))).setCell ⟨w.heap.size + 1, 3, none⟩ (.slice A5 r.ids.length c5)).heap.size (.agg #[VT r.name, .int .i64 r.len, .int .u32 (r.print : Int), .slice A5 r.ids.length c5]) r) := Lib.hid ⟨_, rfl, HR5.out.keep (fun p h1 _ => by
    rw [HSZ.out] at h1
    rw [cell_set4 _ _ _ _ _ (by omega), World.cell?_setCell_other _ _ _ _ (by intro e; subst e; simp at h1; omega)]) (by rw [HSZ.out]; omega) (by rw [size_set4]; simp [World.setCell])⟩
  obtain ⟨x0, x1, x2, x3, _⟩ := (HBR5.out.setFar (d := w.heap.size) (j := 3) (by omega) (.slice A5 r.ids.length c5)).set (VT r.name) (.int .i64 r.len) (.int .u32 (r.print : Int)) (.slice A5 r.ids.length c5)
  refine bodyPost_ret (v := .agg #[VT r.name, .int .i64 r.len, .int .u32 (r.print : Int), .slice A5 r.ids.length c5]) (by simp [results, Tryz.results49, go_sem, x0, x1, x2, x3]) rfl ?_
  exact ⟨_, rfl, HP.out, HB7.out⟩
/-- a row of the call's own that reads as a slice that is read, copied -/
def ClnPost (w : World) (l : EntL) (e : Ending) (w' : World) : Prop := ∃ v', e = .returned v' ∧ OwT w' w.heap.size 38 v' l ∧ Below w.heap.size w w'
theorem info_ent : (Tryz.prog.info? 38).map (fun i => (i.zero, i.size, i.bytes)) = some (some (.agg #[.int .i64 0, .string ByteArray.empty, .int .i64 0, .int .u32 0, .slice none 0 0]), 5, 64) := by kernel_rfl
set_option maxRecDepth 100000 in
set_option maxHeartbeats 1000000 in
theorem ClnE_any (v : Value) (l : EntL) (hl : l.length ≤ 1000000) (w : World) (hv : RdT w w.heap.size v l) :
    Calls Tryz.prog 58 #[v] w (ClnPost w l) := by
  obtain ⟨i0, hi, hz0, hz1, hz2⟩ := info_parts info_ent
  have hb0 : Below w.heap.size w (w.alloc (.cells #[] 38)) := (Below.refl _ w).alloc (Nat.le_refl _) _
  obtain ⟨E, rfl, hE⟩ := hv
  have HV := Lib.hid (hE.keep hb0 (Nat.le_refl _))
  have HX := Lib.hid hE.2
  obtain ⟨A, c, hvA, hlc, hx⟩ := hE.form
  have q1 := Tr.nilE
  have q2 := Tr.someE
  have hlE : E.length ≤ 1000000 := by simpa using hl
  clear hl
  cases A with
  | none =>
    have h0 : E = [] := by
      by_cases hz : 0 < E.length
      · obtain ⟨g, o, hA, _⟩ := hx hz
        cases hA
      · exact List.length_eq_zero_iff.1 (by omega)
    subst h0
    subst hvA
    clear hE HV
    go_enter Tryz.func58, Tryz.ntmps58
    go_wp2
    go_ret
    exact ⟨_, rfl, OwT.nil _ _ _, Below.refl _ _⟩
  | some a =>
    subst hvA
    clear hE hx
    have HB0 := Lib.hid hb0
    have HO := Lib.hid (own_none w 38 5)
    clear hb0
    go_enter Tryz.func58, Tryz.ntmps58
    go_wp2_with (first | (at_builtin; refine wpList_append_rdM rfl (.tmp 5) (.tmp 6) 25 rfl w.heap.size 38 i0 (.agg #[.int .i64 0, .string ByteArray.empty, .int .i64 0, .int .u32 0, .slice none 0 0]) 5 64 Tryz.underlying25 hi hz0 hz1 hz2 rfl (by decide) _ 0 [] rfl HO.out w.heap.size _ E.length (entRow E) rfl HV.out.1 (entRow_one HV.out.2) (by unfold maxLen; omega) (by omega) HB0.out.size ?_; intro v5 w5 ho5 hg5) | fail)
    have HB5 := Lib.hid (HB0.out.grown hg5 HB0.out.size (fun j hj => by cases hj; exact Nat.le_refl _))
    have HO5 := Lib.hid ho5
    clear ho5 hg5
    go_wp2
    go_ret
    refine ⟨_, rfl, ⟨E, rfl, by simpa using HO5.out, fun x hm => ⟨((HX.out x hm).keep HB5.out (Nat.le_refl _)).more HB5.out.size, fun g e h0 e2 => ?_⟩⟩, HB5.out⟩
    have h1 := own_ge HO5.out e
    have h2 := (HX.out x hm).lt h0 e2
    omega
end Go.Proofs.YtbokckjlgjnnjaaGreatDoor
/- Drawn regions: two operations are ready, each of which writes or calls: both orders. No conditions. -/
namespace Go.Proofs.YtbokckjlgjnnjaaGreatDoor
open Go.RowKit
section
variable {P : Program} {md : Region.Mode} {ops : Array Oper} {S : World → Prop} {n : Nat} {Q : Exit → Act → World → Prop} {f : Nat} {listed : Array Bool} {a : Act} {w : World}
/-- **operations i and j may come up, no other: each is carried out** -/
theorem carry2_S (i j : Nat) {oi oj : Oper} (hi : ops[i]? = some oi) (hj : ops[j]? = some oj) (hr : Region.ready md ops listed = [i, j]) (hin : i < n) (hjn : j < n) (hwi : Region.wanted oi (yielded ops a.tmps) = true) (hwj : Region.wanted oj (yielded ops a.tmps) = true)
    (h1 : ∀ K : Act → World → Prop, (∀ a' w', S w' → wpS P md ops S n (LS P md ops Q n) f (listed.setIfInBounds i true) a' w' → K a' w') → oi.wp P a w K bot)
    (h2 : ∀ K : Act → World → Prop, (∀ a' w', S w' → wpS P md ops S n (LS P md ops Q n) f (listed.setIfInBounds j true) a' w' → K a' w') → oj.wp P a w K bot) :
    wpS P md ops S n (LS P md ops Q n) (f + 1) listed a w := by
  refine ⟨by rw [hr]; simp, fun k hk => ?_⟩
  rw [hr, List.mem_cons, List.mem_singleton] at hk
  rcases hk with rfl | rfl
  · refine ⟨hin, ?_⟩
    unfold wpOp
    simp only [hi]
    rw [if_pos hwi]
    exact .inl (h1 _ (fun a' w' h1 h2 => ⟨h1, h2⟩))
  · refine ⟨hjn, ?_⟩
    unfold wpOp
    simp only [hj]
    rw [if_pos hwj]
    exact .inl (h2 _ (fun a' w' h1 h2 => ⟨h1, h2⟩))
end
end Go.Proofs.YtbokckjlgjnnjaaGreatDoor
/- Trails: walk of Add. Condition: the sentinels that are read lie as named. -/
namespace Go.Proofs.YtbokckjlgjnnjaaGreatDoor
open Go.RowKit Go.Lib

def AddPost (a : Nat → Addr) (l : EntL) (x : Ent) (w : World) (e : Ending) (w' : World) : Prop :=
  ∃ v r, e = .returned (.tuple #[v, r]) ∧ EV a r (addRes l x).1.1 (addRes l x).1.2 w' ∧ RdT w' w'.heap.size v (addRes l x).2 ∧ Below w.heap.size w w'
theorem wasAt_snoc (l : EntL) (x : Ent) : wasAt (l ++ [x]) l.length = wasAt l l.length := by
  cases h : l.length with
  | zero => rfl
  | succ k => simp [wasAt, List.getElem?_append_left (show k < l.length by omega)]
theorem add_fault {l : EntL} {x : Ent} (h : (trailFault l).1 ≠ 0) : addRes l x = (trailFault l, []) := if_pos h
theorem add_full {l : EntL} {x : Ent} (h : (trailFault l).1 = 0) (h2 : 40 ≤ l.length) : addRes l x = ((7, -1), []) := (if_neg (not_not_intro h)).trans (if_pos h2)
theorem add_err {l : EntL} {x : Ent} (h : (trailFault l).1 = 0) (h2 : ¬ 40 ≤ l.length) (h3 : entErr x (wasAt l l.length) ≠ 0) : addRes l x = ((entErr x (wasAt l l.length), -1), []) := (if_neg (not_not_intro h)).trans ((if_neg h2).trans (if_pos h3))
theorem add_ok {l : EntL} {x : Ent} (h : (trailFault l).1 = 0) (h2 : ¬ 40 ≤ l.length) (h3 : entErr x (wasAt l l.length) = 0) : addRes l x = ((0, -1), l ++ [x]) := (if_neg (not_not_intro h)).trans ((if_neg h2).trans (if_neg (not_not_intro h3)))
set_option maxRecDepth 100000 in
set_option maxHeartbeats 4000000 in
theorem TAdd_any (a : Nat → Addr) (v : Value) (l : EntL) (x : Ent) (sl : Value) (hb : ∀ e ∈ l, RcpB e.r) (hbx : RcpB x.r) (hl : l.length ≤ 1000000) (w : World) (hv : RdT w w.heap.size v l) (hsl : RdI w w.heap.size sl x.r.ids) (hs : SomeS [1, 2, 3, 6, 7, 8] a w) :
    Calls Tryz.prog 19 #[v, entV (x, sl)] w (AddPost a l x w) := by
  obtain ⟨i0, hi, hz0, hz1, hz2⟩ := info_parts info_ent
  obtain ⟨A, c, hvA, _⟩ := hv.form
  subst hvA
  obtain ⟨As, cs, hsA⟩ := hsl.slice
  subst hsA
  have hb0 : Below w.heap.size w (w.alloc (.cells #[.int .i64 x.day, VT x.r.name, .int .i64 x.r.len, .int .u32 (x.r.print : Int), (.slice As x.r.ids.length cs)] 38)) := (Below.refl _ w).alloc (Nat.le_refl _) _
  have HX0 := Lib.hid (Box5.mk' w (.int .i64 x.day) (VT x.r.name) (.int .i64 x.r.len) (.int .u32 (x.r.print : Int)) (.slice As x.r.ids.length cs) 38)
  have HB0 := Lib.hid hb0
  have HV := Lib.hid (fun w' (h : Below w.heap.size w w') => (RdT.more (hv.keep h (Nat.le_refl _)) h.size : RdT w' w'.heap.size _ l))
  have HSL := Lib.hid (fun w' (h : Below w.heap.size w w') => ((hsl.keep h (Nat.le_refl _)).more h.size : RdI w' w'.heap.size _ x.r.ids))
  have HS := Lib.hid (fun w' (h : Below w.heap.size w w') => hs.below h)
  have CK := Lib.hid (TCheck_any a _ l hb hl _ (HV.out _ hb0) (HS.out _ hb0))
  clear hv hsl hs hb0
  go_enter Tryz.func19, Tryz.ntmps19
  go_wp2_with fail
  refine CK.out.mono ?_
  rintro e w1 ⟨r1, rfl, hev, hb1⟩
  have HB1 := Lib.hid (HB0.out.trans (hb1.mono HB0.out.size))
  have HX1 := Lib.hid (HX0.out.below hb1 HX0.out.lt)
  clear hb1 CK
  generalize hF : trailFault l = F at *
  by_cases h0 : F.1 = 0
  · have HF := Lib.hid hF
    have hF2 : F = (0, -1) := by rw [← hF]; exact trailFault_two (by rw [hF]; exact h0)
    subst hF2
    obtain ⟨rfl, _⟩ := hev.nil rfl
    clear hF hev h0
    by_cases h40 : 40 ≤ l.length
    · have h40i : 40 ≤ (l.length : Int) := by omega
      have HE := Lib.hid (add_full (x := x) (by rw [HF.out]) h40)
      have s7 : w1.cell? ⟨0, 0, none⟩ = some (sval a 6) := HS.out _ HB1.out 6 (by decide)
      unfold sval at s7
      clear h40
      go_wp2
      go_quiet (fail)
      go_wp2
      go_ret2
      exact ⟨_, _, rfl, by rw [HE.out]; exact EV.sent a _ 6 (by decide), by rw [HE.out]; exact RdT.nil _ _, below_drewN HB1.out _⟩
    · have h40i : ¬ 40 ≤ (l.length : Int) := by omega
      obtain ⟨x0, x1, x2, x3, x4, xf⟩ := HX1.out
      go_wp2_with fail
      refine (TCopied_any (rcpAgg x.r (.slice As x.r.ids.length cs)) x.r hbx.c w1 ⟨_, rfl, HSL.out _ HB1.out⟩).mono ?_
      rintro e w2 ⟨v2, rfl, ⟨sl2, rfl, hr2⟩, hb2⟩
      obtain ⟨A2, c2, hsl2⟩ := hr2.rd.slice
      subst hsl2
      have HB2 := Lib.hid (HB1.out.trans (hb2.mono HB1.out.size))
      have HX2 := Lib.hid (HX1.out.below hb2 HX1.out.lt)
      have HLT : Hid (w.heap.size < w1.heap.size) := Lib.hid HX1.out.lt
      have HR2 := Lib.hid hr2
      clear x0 x1 x2 x3 x4 xf hr2 hb2
      obtain ⟨x0, x1, x2, x3, x4, xf⟩ := HX2.out
      have f1 := xf 1
      have f2 := xf 2
      have f3 := xf 3
      have f4 := xf 4
      clear xf
      go_wp2
      generalize hw3 : ((((w2.setCell ⟨w.heap.size, 1, none⟩ (VT x.r.name)).setCell ⟨w.heap.size, 2, none⟩ (.int .i64 x.r.len)).setCell ⟨w.heap.size, 3, none⟩ (.int .u32 (x.r.print : Int))).setCell ⟨w.heap.size, 4, none⟩ (.slice A2 x.r.ids.length c2)) = w3
      have HB3 : Hid (Below w.heap.size w w3) := Lib.hid (by rw [← hw3]; exact below_set14 HB2.out (Nat.le_refl _) _ _ _ _)
      have HX3 : Hid (Box5 w.heap.size (.int .i64 x.day) (VT x.r.name) (.int .i64 x.r.len) (.int .u32 (x.r.print : Int)) (.slice A2 x.r.ids.length c2) w3) := Lib.hid (by rw [← hw3]; exact HX2.out.set14 _ _ _ _)
      have HR3 : Hid (RdI w3 w3.heap.size (.slice A2 x.r.ids.length c2) x.r.ids) := Lib.hid (by
        rw [← hw3, size_set14]
        exact (HR2.out.keep (fun p h1 _ => cell_set14 _ _ _ _ _ (by have := HLT.out; omega)) (Nat.le_refl _) (Nat.le_refl _)).rd)
      clear hw3 x0 x1 x2 x3 x4 f1 f2 f3 f4
      have hS0 : Below w3.heap.size w3 w3.drew := (Below.refl _ _).drew
      refine region_S (fun w' => Below w3.heap.size w3 w') 4 (by kernel_rfl) (by kernel_rfl) ?_
      refine take_S 0 rfl (by kernel_rfl) (by kernel_rfl) hS0 (fun w' hS => by obtain ⟨y0, y1, y2, y3, y4, _⟩ := HX3.out.below hS HX3.out.lt; go_simp; rfl) ?_
      refine take_S 2 rfl (by kernel_rfl) (by kernel_rfl) hS0 (fun w' hS => by obtain ⟨y0, y1, y2, y3, y4, _⟩ := HX3.out.below hS HX3.out.lt; go_simp; rfl) ?_
      refine carry2_S 1 3 rfl rfl (by kernel_rfl) (by decide) (by decide) (by kernel_rfl) (by kernel_rfl) (fun K hK => ?_) (fun K hK => ?_)
      · go_simp
        refine (ClnE_any _ l hl w3.drew (HV.out _ (HB3.out.trans (hS0.mono HB3.out.size)))).mono ?_
        rintro e w4 ⟨v4, rfl, ho4, hb4⟩
        have hS4 : Below w3.heap.size w3 w4 := hS0.trans (hb4.mono hS0.size)
        obtain ⟨A4, u4, hv4⟩ := ho4.slice
        subst hv4
        refine hK _ _ hS4 ?_
        clear hK K
        try simp only [Act.put, List.getElem_toArray, List.getElem_cons_succ, List.getElem_cons_zero, List.setIfInBounds_toArray, List.set_cons_zero, List.set_cons_succ]
        refine carry_S 3 rfl (by kernel_rfl) (by decide) (by kernel_rfl) (fun K hK => ?_)
        go_simp
        have ha6 : Below w4.heap.size w4 (w4.alloc (.cells #[.int .i64 x.day, VT x.r.name, .int .i64 x.r.len, .int .u32 (x.r.print : Int), (.slice A2 x.r.ids.length c2)] 38)) := (Below.refl _ _).alloc (Nat.le_refl _) _
        have hS6 : Below w3.heap.size w3 (w4.alloc (.cells #[.int .i64 x.day, VT x.r.name, .int .i64 x.r.len, .int .u32 (x.r.print : Int), (.slice A2 x.r.ids.length c2)] 38)) := hS4.trans (ha6.mono hS4.size)
        have HO6 := Lib.hid (ho4.below ha6)
        have HN6 := Lib.hid (NewE.mk' w4 (x, .slice A2 x.r.ids.length c2) 38)
        have HR6 := Lib.hid ((HR3.out.keep hS6 (Nat.le_refl _)).more hS6.size)
        refine hK _ _ hS6 (forced_S (by kernel_rfl) ?_)
        clear hK K ha6 ho4 hb4
        try simp only [Act.put, List.getElem_toArray, List.getElem_cons_succ, List.getElem_cons_zero, List.setIfInBounds_toArray, List.set_cons_zero, List.set_cons_succ]
        simp only [List.drop_succ_cons, List.drop_zero]
        obtain ⟨E, hE, ho6, hx6⟩ := HO6.out
        have hEl : E.length = l.length := by rw [← hE, List.length_map]
        have ho6l := ho6
        rw [hEl] at ho6l
        go_wp2_with (first | (at_builtin; go_loud (refine wpList_append_own_at _ rfl _ _ 25 rfl w3.drew.heap.size 38 i0 (.agg #[.int .i64 0, .string ByteArray.empty, .int .i64 0, .int .u32 0, .slice none 0 0]) 5 64 Tryz.underlying25 hi hz0 hz1 hz2 rfl (by decide) _ _ _ rfl ho6l ⟨w4.heap.size, 0, none⟩ 1 1 (entCells (x, .slice A2 x.r.ids.length c2)) rfl rfl HN6.out (entCells_one HR6.out) (by unfold maxLen; omega) (by omega) hS6.size ?_; intro v7 w7 hown7 hg7 _ hat7)) | fail)
        have HO7 := Lib.hid (OwT.snoc ho6 hx6 (y := (x, .slice A2 x.r.ids.length c2)) HR6.out (fun g e h0 e2 => by
          have h1 := own_ge ho6 e
          have h2 := HR3.out.lt h0 e2
          have h3 := hS0.size
          omega) (by rw [hEl]; exact hown7) hg7 hat7)
        rw [List.map_append, hE] at HO7
        have HB7 := Lib.hid ((HB3.out.trans (hS6.mono HB3.out.size)).grown hg7 (HB3.out.trans (hS6.mono HB3.out.size)).size (fun j hj => Nat.le_trans HB3.out.size (Nat.le_trans hS0.size (own_ge ho6 hj))))
        have hrd := HO7.out.rd
        clear hown7 hg7 hat7 hx6 ho6
        obtain ⟨A7, u7, hv7⟩ := HO7.out.slice
        subst hv7
        have HRD := Lib.hid hrd
        have hk : l.length < (l ++ [x]).length := by simp
        have RT := TRight_any a _ (l ++ [x]) (fun e he => by rcases List.mem_append.1 he with h | h; · exact hb e h
                                                             · rw [List.mem_singleton.1 h]; exact hbx) l.length hk (by rw [List.length_append]; simp; omega) w7 hrd (HS.out _ HB7.out)
        rw [wasAt_snoc, show (l ++ [x])[l.length]'hk = x by simp] at RT
        have HRT := Lib.hid RT
        clear RT hrd
        have HLN : Hid ((l ++ [x]).length = l.length + 1) := Lib.hid (by simp)
        go_wp2_with fail
        refine HRT.out.mono ?_
        rintro e w8 ⟨r8, rfl, hes, hb8⟩
        have HB8 := Lib.hid (HB7.out.trans (hb8.mono HB7.out.size))
        by_cases he : entErr x (wasAt l l.length) = 0
        · have HE := Lib.hid (add_ok (x := x) (by rw [HF.out]) h40 he)
          obtain ⟨rfl, _⟩ := hes.nil he
          have HRD8 : Hid (RdT w8 w8.heap.size (.slice A7 (l.length + 1) u7) (l ++ [x])) := Lib.hid (by have := HRD.out.below hb8; simpa using this)
          clear hes hb8
          go_wp2
          go_ret2
          exact ⟨_, _, rfl, by rw [HE.out]; exact EV.none a _, by rw [HE.out]; exact HRD8.out, HB8.out⟩
        · have HE := Lib.hid (add_err (x := x) (by rw [HF.out]) h40 he)
          obtain ⟨T, p, hr8⟩ := hes.some he
          subst hr8
          have HES := Lib.hid hes
          clear hes hb8
          go_wp2
          go_ret2
          exact ⟨_, _, rfl, by rw [HE.out]; exact HES.out.ev _, by rw [HE.out]; exact RdT.nil _ _, HB8.out⟩
      · go_simp
        have ha4 : Below w3.drew.heap.size w3.drew (w3.drew.alloc (.cells #[.int .i64 x.day, VT x.r.name, .int .i64 x.r.len, .int .u32 (x.r.print : Int), (.slice A2 x.r.ids.length c2)] 38)) := (Below.refl _ _).alloc (Nat.le_refl _) _
        have hS4 : Below w3.heap.size w3 (w3.drew.alloc (.cells #[.int .i64 x.day, VT x.r.name, .int .i64 x.r.len, .int .u32 (x.r.print : Int), (.slice A2 x.r.ids.length c2)] 38)) := hS0.trans (ha4.mono hS0.size)
        have hn4 := NewE.mk' w3.drew (x, .slice A2 x.r.ids.length c2) 38
        refine hK _ _ hS4 ?_
        clear hK K
        try simp only [Act.put, List.getElem_toArray, List.getElem_cons_succ, List.getElem_cons_zero, List.setIfInBounds_toArray, List.set_cons_zero, List.set_cons_succ]
        refine carry_S 1 rfl (by kernel_rfl) (by decide) (by kernel_rfl) (fun K hK => ?_)
        go_simp
        refine (ClnE_any _ l hl (w3.drew.alloc (.cells #[.int .i64 x.day, VT x.r.name, .int .i64 x.r.len, .int .u32 (x.r.print : Int), (.slice A2 x.r.ids.length c2)] 38)) (HV.out _ (HB3.out.trans (hS4.mono HB3.out.size)))).mono ?_
        rintro e w6 ⟨v4, rfl, ho6', hb6⟩
        have hS6 : Below w3.heap.size w3 w6 := hS4.trans (hb6.mono hS4.size)
        obtain ⟨A4, u4, hv4⟩ := ho6'.slice
        subst hv4
        have HO6 : Hid (OwT w6 w3.drew.heap.size 38 (.slice A4 l.length u4) l) := Lib.hid (by
          obtain ⟨E, hE, ho, hx⟩ := ho6'
          exact ⟨E, hE, Go.Joins.ownsRow_le ho (by simp), hx⟩)
        have HN6 := Lib.hid (hn4.below hb6 (by simp))
        have HR6 := Lib.hid ((HR3.out.keep hS6 (Nat.le_refl _)).more hS6.size)
        refine hK _ _ hS6 (forced_S (by kernel_rfl) ?_)
        clear hK K ho6' hb6
        try simp only [Act.put, List.getElem_toArray, List.getElem_cons_succ, List.getElem_cons_zero, List.setIfInBounds_toArray, List.set_cons_zero, List.set_cons_succ]
        simp only [List.drop_succ_cons, List.drop_zero]
        obtain ⟨E, hE, ho6, hx6⟩ := HO6.out
        have hEl : E.length = l.length := by rw [← hE, List.length_map]
        have ho6l := ho6
        rw [hEl] at ho6l
        go_wp2_with (first | (at_builtin; go_loud (refine wpList_append_own_at _ rfl _ _ 25 rfl w3.drew.heap.size 38 i0 (.agg #[.int .i64 0, .string ByteArray.empty, .int .i64 0, .int .u32 0, .slice none 0 0]) 5 64 Tryz.underlying25 hi hz0 hz1 hz2 rfl (by decide) _ _ _ rfl ho6l ⟨w3.drew.heap.size, 0, none⟩ 1 1 (entCells (x, .slice A2 x.r.ids.length c2)) rfl rfl HN6.out (entCells_one HR6.out) (by unfold maxLen; omega) (by omega) hS6.size ?_; intro v7 w7 hown7 hg7 _ hat7)) | fail)
        have HO7 := Lib.hid (OwT.snoc ho6 hx6 (y := (x, .slice A2 x.r.ids.length c2)) HR6.out (fun g e h0 e2 => by
          have h1 := own_ge ho6 e
          have h2 := HR3.out.lt h0 e2
          have h3 := hS0.size
          omega) (by rw [hEl]; exact hown7) hg7 hat7)
        rw [List.map_append, hE] at HO7
        have HB7 := Lib.hid ((HB3.out.trans (hS6.mono HB3.out.size)).grown hg7 (HB3.out.trans (hS6.mono HB3.out.size)).size (fun j hj => Nat.le_trans HB3.out.size (Nat.le_trans hS0.size (own_ge ho6 hj))))
        have hrd := HO7.out.rd
        clear hown7 hg7 hat7 hx6 ho6
        obtain ⟨A7, u7, hv7⟩ := HO7.out.slice
        subst hv7
        have HRD := Lib.hid hrd
        have hk : l.length < (l ++ [x]).length := by simp
        have RT := TRight_any a _ (l ++ [x]) (fun e he => by rcases List.mem_append.1 he with h | h; · exact hb e h
                                                             · rw [List.mem_singleton.1 h]; exact hbx) l.length hk (by rw [List.length_append]; simp; omega) w7 hrd (HS.out _ HB7.out)
        rw [wasAt_snoc, show (l ++ [x])[l.length]'hk = x by simp] at RT
        have HRT := Lib.hid RT
        clear RT hrd
        have HLN : Hid ((l ++ [x]).length = l.length + 1) := Lib.hid (by simp)
        go_wp2_with fail
        refine HRT.out.mono ?_
        rintro e w8 ⟨r8, rfl, hes, hb8⟩
        have HB8 := Lib.hid (HB7.out.trans (hb8.mono HB7.out.size))
        by_cases he : entErr x (wasAt l l.length) = 0
        · have HE := Lib.hid (add_ok (x := x) (by rw [HF.out]) h40 he)
          obtain ⟨rfl, _⟩ := hes.nil he
          have HRD8 : Hid (RdT w8 w8.heap.size (.slice A7 (l.length + 1) u7) (l ++ [x])) := Lib.hid (by have := HRD.out.below hb8; simpa using this)
          clear hes hb8
          go_wp2
          go_ret2
          exact ⟨_, _, rfl, by rw [HE.out]; exact EV.none a _, by rw [HE.out]; exact HRD8.out, HB8.out⟩
        · have HE := Lib.hid (add_err (x := x) (by rw [HF.out]) h40 he)
          obtain ⟨T, p, hr8⟩ := hes.some he
          subst hr8
          have HES := Lib.hid hes
          clear hes hb8
          go_wp2
          go_ret2
          exact ⟨_, _, rfl, by rw [HE.out]; exact HES.out.ev _, by rw [HE.out]; exact RdT.nil _ _, HB8.out⟩
  · have HE := Lib.hid (add_fault (x := x) (by rw [hF]; exact h0))
    obtain ⟨T, p, hr1⟩ := hev.some h0
    subst hr1
    have HEV := Lib.hid hev
    clear hev h0
    go_wp2
    go_ret2
    exact ⟨_, _, rfl, by rw [HE.out, hF]; exact HEV.out, by rw [HE.out]; exact RdT.nil _ _, HB1.out⟩
end Go.Proofs.YtbokckjlgjnnjaaGreatDoor
/- Trails: the library's slices.Backward at entries: its iterator hands the entries over, the last one first. No conditions. -/
namespace Go.Proofs.YtbokckjlgjnnjaaGreatDoor
open Go.RowKit Go.Lib

/-- what lies below block b stands -/
def KpB (b : Nat) (A B : World) : Prop := (∀ k, k < b → B.heap[k]? = A.heap[k]?) ∧ A.heap.size ≤ B.heap.size
theorem KpB.refl (b : Nat) (A : World) : KpB b A A := ⟨fun _ _ => rfl, Nat.le_refl _⟩
theorem KpB.trans {b : Nat} {A B C : World} (h : KpB b A B) (k : KpB b B C) : KpB b A C := ⟨fun i hi => (k.1 i hi).trans (h.1 i hi), Nat.le_trans h.2 k.2⟩
theorem KpB.cell {b : Nat} {A B : World} (h : KpB b A B) {p : Addr} (hp : p.block < b) : B.cell? p = A.cell? p := World.cell?_of_block (h.1 p.block hp)
theorem KpB.of_below {b : Nat} {A B : World} (h : Below A.heap.size A B) (hb : b ≤ A.heap.size) : KpB b A B := ⟨fun k hk => h.block k (Nat.lt_of_lt_of_le hk hb), h.size⟩
theorem KpB.put {b l : Nat} {W : World} {o o' : Obj} (hl : b ≤ l) (h : W.heap[l]? = some o) : KpB b W (W.putObj l o') := by
  refine ⟨fun k hk => ?_, by simp [World.putObj]⟩
  simp only [World.putObj]
  rw [Array.getElem?_setIfInBounds, if_neg (by omega)]
/-- the blocks of S stand -/
def KpS (S : Nat → Prop) (A B : World) : Prop := (∀ k, S k → B.heap[k]? = A.heap[k]?) ∧ A.heap.size ≤ B.heap.size
theorem KpS.refl (S : Nat → Prop) (A : World) : KpS S A A := ⟨fun _ _ => rfl, Nat.le_refl _⟩
theorem KpS.trans {S : Nat → Prop} {A B C : World} (h : KpS S A B) (k : KpS S B C) : KpS S A C := ⟨fun i hi => (k.1 i hi).trans (h.1 i hi), Nat.le_trans h.2 k.2⟩
theorem KpS.cell {S : Nat → Prop} {A B : World} (h : KpS S A B) {p : Addr} (hp : S p.block) : B.cell? p = A.cell? p := World.cell?_of_block (h.1 p.block hp)
theorem KpS.gb {S : Nat → Prop} {A B C : World} {r : Option Nat} (h : KpS S A B) (hg : B.grownBy C r) (hS : ∀ k, S k → k < B.heap.size ∧ some k ≠ r) : KpS S A C :=
  ⟨fun k hk => (hg.block k (hS k hk).1 (hS k hk).2).trans (h.1 k hk), Nat.le_trans h.2 hg.size⟩
theorem KpS.put {S : Nat → Prop} {l : Nat} {W : World} {o' : Obj} (hl : ∀ k, S k → k < l) : KpS S W (W.putObj l o') := by
  refine ⟨fun k hk => ?_, by simp [World.putObj]⟩
  have := hl k hk
  simp only [World.putObj]
  rw [Array.getElem?_setIfInBounds, if_neg (by omega)]
theorem seqStops_kp {α : Type} {F : Fence} {n : Nat} {P : Program} {g : Nat} {lb : Array Value} {encs : α → Array Value} {Kp Kp' : World → World → Prop} {S Sp : List α → Prop} {N : Nat} {w : World} (h : SeqStopsK F n P g lb encs Kp S Sp N w) (hk : ∀ A B, Kp' A B → Kp A B) :
    SeqStopsK F n P g lb encs Kp' S Sp N w := fun l J Jx W hW hJ hJx hY h0 => h l J Jx W hW hJ hJx (fun pre x W1 h1 h2 => by
  obtain ⟨fn, tmps, assign, body, hy, hR⟩ := hY pre x W1 h1 h2
  exact ⟨fn, tmps, assign, body, hy, hR.mono fun e W' hr => hr.imp (fun ⟨a, b, c⟩ => ⟨a, b, hk _ _ c⟩) id⟩) h0
/-- the places, the last one first -/
def backF (n : Nat) : List (Fin n) := (List.finRange n).reverse
theorem backF_length (n : Nat) : (backF n).length = n := by simp [backF]
theorem backF_at {n j : Nat} (hj : j < n) : (backF n).take (n - j) = (backF n).take (n - (j + 1)) ++ [⟨j, hj⟩] := by
  have h1 : n - (j + 1) < (backF n).length := by rw [backF_length]; omega
  have h2 : n - j = n - (j + 1) + 1 := by omega
  rw [h2, List.take_succ_eq_append_getElem h1]
  congr 2
  simp only [backF, List.getElem_reverse, List.getElem_finRange, List.length_finRange]
  apply Fin.ext
  simp
  omega
theorem Back_any (A : Option Addr) (m c : Nat) (w : World) : Calls Tryz.prog 48 #[.slice A m c] w fun e w' => e = .returned (.func (.func 84) #[] #[.pointer (some ⟨w.heap.size, 0, none⟩)]) ∧ w' = w.alloc (.cells #[.slice A m c] 25) := by
  go_enter Tryz.func48, Tryz.ntmps48
  go_wp2
  go_ret
  exact ⟨rfl, rfl⟩
set_option maxRecDepth 100000 in
set_option maxHeartbeats 2000000 in
theorem Back1_stopsS (S : Nat → Prop) (B0 : Nat) (n : Nat) (hn : 1 ≤ n) (Bm : Nat) (A : Option Addr) (c : Nat) (E : EntXL) (w : World) (hBm : Bm < w.heap.size) (hm : w.cell? ⟨Bm, 0, none⟩ = some (.slice A E.length c)) (hl : E.length ≤ 1000000) (hv : RdE w B0 (.slice A E.length c) E) (hB0 : B0 ≤ w.heap.size) (hS : ∀ k, k < B0 → S k) (hSb : S Bm) :
    SeqStopsK Fence.wide n Tryz.prog 84 #[.pointer (some ⟨Bm, 0, none⟩)] (fun k : Fin E.length => #[.int .i64 (k.val : Int), entV (E[k.val]'k.isLt)]) (KpS S) (fun os => os = backF E.length) (fun os => ∃ m, os = (backF E.length).take m) E.length w := by
  intro l J Jx W hW hJ hJx hY h0
  have HK0 : Hid (W.cell? ⟨Bm, 0, none⟩ = some (.slice A E.length c)) := Lib.hid ((hW.cell (p := ⟨Bm, 0, none⟩) hBm).trans hm)
  obtain ⟨A', c', he, _, hx⟩ := (hv.keep hW hB0).form
  injection he with he1 he2 he3
  subst he1
  have HX := Lib.hid hx
  have c0 := HK0.out
  clear hx hm hv
  refine callsIn_of_wp Tryz.func84 rfl trivial ?_ rfl
  simp only [Tryz.ntmps84, List.size_toArray, List.length_cons, List.length_nil, Nat.reduceAdd, Nat.reduceSub, Array.replicate_succ, Array.replicate_zero, List.push_toArray, List.append_toArray, List.nil_append, List.cons_append]
  gi_wp2
  gi_loopw [3] (fun vi wr => ∃ i : Nat, i ≤ E.length ∧ vi = .int .i64 ((i : Int) - 1) ∧ Hid (J ((backF E.length).take (E.length - i)) wr) ∧ Hid (KpS S W wr))
    (fun vi _ => (RowKit.intOf vi + 1).toNat)
  case atStart =>
    exact ⟨E.length, Nat.le_refl _, rfl, Lib.hid (by rw [Nat.sub_self]; exact h0), Lib.hid (KpS.refl _ _)⟩
  case round =>
    obtain ⟨i, hi, rfl, hJs, hK⟩ := hrel
    have cb := (hK.out.cell (p := ⟨Bm, 0, none⟩) hSb).trans HK0.out
    cases i with
    | zero =>
      gi_wp2
      go_end0
      exact ⟨⟨_, rfl⟩, .inl ⟨_, List.take_of_length_le (by rw [backF_length]; omega), hJs.out⟩⟩
    | succ j =>
      rw [show ((j + 1 : Nat) : Int) - 1 = (j : Int) by omega]
      obtain ⟨g, o, rfl, hg, hcell⟩ := HX.out (by omega)
      obtain ⟨e0, e1, e2, e3, e4⟩ := hcell j (by omega)
      have d0 := (hK.out.cell (p := ⟨g, o + j * 5, none⟩) (hS g hg)).trans e0
      have d1 := (hK.out.cell (p := ⟨g, o + j * 5 + 1, none⟩) (hS g hg)).trans e1
      have d2 := (hK.out.cell (p := ⟨g, o + j * 5 + 2, none⟩) (hS g hg)).trans e2
      have d3 := (hK.out.cell (p := ⟨g, o + j * 5 + 3, none⟩) (hS g hg)).trans e3
      have d4 := (hK.out.cell (p := ⟨g, o + j * 5 + 4, none⟩) (hS g hg)).trans e4
      have b1 : (0 : Int) ≤ (j : Int) := by omega
      have b2 : (j : Int) < (E.length : Int) := by omega
      have hbk := backF_at (n := E.length) (j := j) (by omega)
      obtain ⟨fn, tmps, assign, body, hy, hR⟩ := hY _ ⟨j, by omega⟩ wr hJs.out (by rw [List.length_take, backF_length]; omega)
      rw [← hbk] at hR
      dsimp only at hy hR
      have HR := Lib.hid hR
      clear hcell e0 e1 e2 e3 e4 hbk hJs hR
      gi_wp2
      refine HR.out.mono ?_
      rintro e W3 (⟨rfl, hJ3, hk3⟩ | ⟨rfl, hJx3⟩)
      · gi_wp2
        go_roundw
        case rel => exact ⟨j, by omega, by go_num, Lib.hid hJ3, Lib.hid (hK.out.trans hk3)⟩
        case measure => simp [RowKit.intOf]
      · gi_wp2
        refine bodyPost_ret (results_none rfl _ _ _) rfl ?_
        exact ⟨⟨_, rfl⟩, .inr ⟨_, ⟨_, rfl⟩, hJx3⟩⟩
theorem Back1_stops (n : Nat) (hn : 1 ≤ n) (Bm : Nat) (A : Option Addr) (c : Nat) (E : EntXL) (w : World) (hBm : Bm < w.heap.size) (hm : w.cell? ⟨Bm, 0, none⟩ = some (.slice A E.length c)) (hl : E.length ≤ 1000000) (hv : RdE w w.heap.size (.slice A E.length c) E) :
    SeqStopsK Fence.wide n Tryz.prog 84 #[.pointer (some ⟨Bm, 0, none⟩)] (fun k : Fin E.length => #[.int .i64 (k.val : Int), entV (E[k.val]'k.isLt)]) (KpB w.heap.size) (fun os => os = backF E.length) (fun os => ∃ m, os = (backF E.length).take m) E.length w :=
  seqStops_kp (Back1_stopsS (fun k => k < w.heap.size) w.heap.size n hn Bm A c E w hBm hm hl hv (Nat.le_refl _) (fun _ h => h) hBm) (fun _ _ h => h)
end Go.Proofs.YtbokckjlgjnnjaaGreatDoor

/- Walk of the law PrintTells. Condition: the sentinels, the type handle, the library's tables, MaxLen and strconv's two error variables lie as named (PriW). -/
import Derived.Test.YtpacalklcdlhoaaGreatDoorPrR
import Derived.Test.YtpacalklcdlhoaaGreatDoorRefQ
import Derived.Test.YtpacalklcdlhoaaGreatDoorRefI
import Derived.Test.YtpacalklcdlhoaaGreatDoorCmpT
import Derived.Test.YtpacalklcdlhoaaGreatDoorErrV
import Derived.Test.YtpacalklcdlhoaaGreatDoorEv
import Derived.Test.YtpacalklcdlhoaaGreatDoorHeld
namespace Go.Proofs.YtpacalklcdlhoaaGreatDoor
open Go.RowKit Go.Lib

structure PriW (a : Nat → Addr) (w : World) : Prop where
  s : Sents a w
  t : Tabs w
  m : MaxL w
  p : Perrs w
theorem PriW.below {a : Nat → Addr} {w w' : World} (h : PriW a w) (hb : Below w.heap.size w w') : PriW a w' := ⟨h.s.below hb, h.t.below hb, h.m.below hb, h.p.below hb⟩
theorem coded1_none (a : Nat → Addr) (w : World) (h : Sents a w) : Calls Tryz.prog 31 #[.nilIface, .int .i64 0] w fun e w' => e = .returned (.bool true) ∧ Below w.heap.size w w' :=
  (coded1_any a .nilIface 0 0 (-1) w h (ErrV.none a w)).mono fun e w' ⟨h1, h2⟩ => ⟨h1, h2⟩
theorem coded1_text (a : Nat → Addr) (w : World) (h : Sents a w) : Calls Tryz.prog 31 #[sval a 0, .int .i64 1] w fun e w' => e = .returned (.bool true) ∧ Below w.heap.size w w' :=
  (coded1_any a (sval a 0) 1 1 (-1) w h (ErrV.sent h 0 (by decide))).mono fun e w' ⟨h1, h2⟩ => ⟨h1, h2⟩
set_option maxRecDepth 100000 in
set_option maxHeartbeats 4000000 in
theorem PrintTells_small (a : Nat → Addr) (s t : ByteArray) (n p q : Nat) (l m : Int) (hn : n < 4294967296) (hp : p < 4294967296) (hq : q < 4294967296) (l0 : -9223372036854775808 ≤ l) (l1 : l ≤ 9223372036854775807) (w : World) (h : PriW a w)
    (hs500 : s.size ≤ 500) (ht40 : t.size ≤ 40) :
    Calls Tryz.prog 4 #[.string s, .int .u32 (n : Int), .agg #[.int .u32 (p : Int), .int .i64 l], .agg #[.int .u32 (q : Int), .int .i64 m], .string t] w fun e w' => e = .returned (.bool true) ∧ Below w.heap.size w w' := by
  have hb0 : Below w.heap.size w ((w.alloc (.cells #[.int .u32 (p : Int), .int .i64 l] 25)).alloc (.cells #[.int .u32 (q : Int), .int .i64 m] 25)) := ((Below.refl _ w).alloc (Nat.le_refl _) _).alloc (by simp) _
  have ha : Box2 w.heap.size (.int .u32 (p : Int)) (.int .i64 l) ((w.alloc (.cells #[.int .u32 (p : Int), .int .i64 l] 25)).alloc (.cells #[.int .u32 (q : Int), .int .i64 m] 25)) := (Box2.mk' w _ _ _).alloc _
  have hb : Box2 (w.heap.size + 1) (.int .u32 (q : Int)) (.int .i64 m) ((w.alloc (.cells #[.int .u32 (p : Int), .int .i64 l] 25)).alloc (.cells #[.int .u32 (q : Int), .int .i64 m] 25)) := by
    have := Box2.mk' (w.alloc (.cells #[.int .u32 (p : Int), .int .i64 l] 25)) (.int .u32 (q : Int)) (.int .i64 m) 25
    simpa using this
  have H0 := Lib.hid (h.below hb0)
  have hs1 : s.size ≤ maxLen := by unfold maxLen; omega
  have hs2 : ¬ (500 : Int) < (s.size : Int) := by omega
  have ht2 : ¬ (40 : Int) < (t.size : Int) := by omega
  clear h
  go_enter Tryz.func4, Tryz.ntmps4
  go_wp2_with fail
  generalize (w.alloc (.cells #[.int .u32 (p : Int), .int .i64 l] 25)).alloc (.cells #[.int .u32 (q : Int), .int .i64 m] 25) = w0 at *
  refine (printed_any w0 ⟨H0.out.t, H0.out.m⟩).mono ?_
  rintro e w1 ⟨rfl, hb1⟩
  have H1 := Lib.hid (H0.out.below hb1)
  have HA := Lib.hid (ha.below hb1 ha.lt)
  have HB := Lib.hid (hb.below hb1 hb.lt)
  have HB1 := Lib.hid (hb0.trans (hb1.mono hb0.size))
  clear hb0 ha hb hb1
  go_wp2
  have hS0 : Below w1.heap.size w1 w1.drew := (Below.refl _ _).drew
  refine region_S (fun w' => Below w1.heap.size w1 w') 27 (by kernel_rfl) (by kernel_rfl) ?_
  refine take_S 0 rfl (by kernel_rfl) (by kernel_rfl) hS0 (fun w' hS => by go_simp; rfl) ?_
  try simp only [Act.put, List.getElem_toArray, List.getElem_cons_succ, List.getElem_cons_zero, List.setIfInBounds_toArray, List.set_cons_zero, List.set_cons_succ]
  refine take_S 2 rfl (by kernel_rfl) (by kernel_rfl) hS0 (fun w' hS => by go_simp; rfl) ?_
  try simp only [Act.put, List.getElem_toArray, List.getElem_cons_succ, List.getElem_cons_zero, List.setIfInBounds_toArray, List.set_cons_zero, List.set_cons_succ]
  refine carry_S 1 rfl (by kernel_rfl) (by decide) (by kernel_rfl) (fun K hK => ?_)
  go_simp
  refine (POf_any s _ hs1).mono ?_
  rintro e x ⟨rfl, rfl⟩
  refine hK _ _ hS0 ?_
  clear hK K
  try simp only [Act.put, List.getElem_toArray, List.getElem_cons_succ, List.getElem_cons_zero, List.setIfInBounds_toArray, List.set_cons_zero, List.set_cons_succ]
  refine carry_S 3 rfl (by kernel_rfl) (by decide) (by kernel_rfl) (fun K hK => ?_)
  go_simp
  refine (PrintOf_any s _ hs1).mono ?_
  rintro e x ⟨rfl, rfl⟩
  refine hK _ _ hS0 ?_
  clear hK K
  try simp only [Act.put, List.getElem_toArray, List.getElem_cons_succ, List.getElem_cons_zero, List.setIfInBounds_toArray, List.set_cons_zero, List.set_cons_succ]
  generalize prOf s.data.toList = P0 at *
  refine take_S (v := .bool false) 4 rfl (by kernel_rfl) (by kernel_rfl) hS0 (fun w' hS => by go_simp) ?_
  try simp only [Act.put, List.getElem_toArray, List.getElem_cons_succ, List.getElem_cons_zero, List.setIfInBounds_toArray, List.set_cons_zero, List.set_cons_succ]
  refine take_S 5 rfl (by kernel_rfl) (by kernel_rfl) hS0 (fun w' hS => by go_simp; rfl) ?_
  try simp only [Act.put, List.getElem_toArray, List.getElem_cons_succ, List.getElem_cons_zero, List.setIfInBounds_toArray, List.set_cons_zero, List.set_cons_succ]
  refine take_S 6 rfl (by kernel_rfl) (by kernel_rfl) hS0 (fun w' hS => by go_simp; rfl) ?_
  try simp only [Act.put, List.getElem_toArray, List.getElem_cons_succ, List.getElem_cons_zero, List.setIfInBounds_toArray, List.set_cons_zero, List.set_cons_succ]
  refine take_S 7 rfl (by kernel_rfl) (by kernel_rfl) hS0 (fun w' hS => by go_simp; rfl) ?_
  try simp only [Act.put, List.getElem_toArray, List.getElem_cons_succ, List.getElem_cons_zero, List.setIfInBounds_toArray, List.set_cons_zero, List.set_cons_succ]
  refine take_S 9 rfl (by kernel_rfl) (by kernel_rfl) hS0 (fun w' hS => by go_simp; rfl) ?_
  try simp only [Act.put, List.getElem_toArray, List.getElem_cons_succ, List.getElem_cons_zero, List.setIfInBounds_toArray, List.set_cons_zero, List.set_cons_succ]
  refine take_S 10 rfl (by kernel_rfl) (by kernel_rfl) hS0 (fun w' hS => by go_simp; rfl) ?_
  try simp only [Act.put, List.getElem_toArray, List.getElem_cons_succ, List.getElem_cons_zero, List.setIfInBounds_toArray, List.set_cons_zero, List.set_cons_succ]
  refine carry_S 8 rfl (by kernel_rfl) (by decide) (by kernel_rfl) (fun K hK => ?_)
  go_simp
  refine (PMore_any n hn s _ hs1).mono ?_
  rintro e x ⟨rfl, rfl⟩
  refine hK _ _ hS0 ?_
  clear hK K
  try simp only [Act.put, List.getElem_toArray, List.getElem_cons_succ, List.getElem_cons_zero, List.setIfInBounds_toArray, List.set_cons_zero, List.set_cons_succ]
  refine carry_S 11 rfl (by kernel_rfl) (by decide) (by kernel_rfl) (fun K hK => ?_)
  go_simp
  refine (PrintFrom_any n hn s _ hs1).mono ?_
  rintro e x ⟨rfl, rfl⟩
  refine hK _ _ hS0 ?_
  clear hK K
  try simp only [Act.put, List.getElem_toArray, List.getElem_cons_succ, List.getElem_cons_zero, List.setIfInBounds_toArray, List.set_cons_zero, List.set_cons_succ]
  generalize prMore n s.data.toList = P1 at *
  refine take_S (v := .bool false) 12 rfl (by kernel_rfl) (by kernel_rfl) hS0 (fun w' hS => by go_simp) ?_
  try simp only [Act.put, List.getElem_toArray, List.getElem_cons_succ, List.getElem_cons_zero, List.setIfInBounds_toArray, List.set_cons_zero, List.set_cons_succ]
  refine take_S 13 rfl (by kernel_rfl) (by kernel_rfl) hS0 (fun w' hS => by go_simp; rfl) ?_
  try simp only [Act.put, List.getElem_toArray, List.getElem_cons_succ, List.getElem_cons_zero, List.setIfInBounds_toArray, List.set_cons_zero, List.set_cons_succ]
  refine take_S 14 rfl (by kernel_rfl) (by kernel_rfl) hS0 (fun w' hS => by go_simp; rfl) ?_
  try simp only [Act.put, List.getElem_toArray, List.getElem_cons_succ, List.getElem_cons_zero, List.setIfInBounds_toArray, List.set_cons_zero, List.set_cons_succ]
  refine take_S 15 rfl (by kernel_rfl) (by kernel_rfl) hS0 (fun w' hS => by go_simp; rfl) ?_
  try simp only [Act.put, List.getElem_toArray, List.getElem_cons_succ, List.getElem_cons_zero, List.setIfInBounds_toArray, List.set_cons_zero, List.set_cons_succ]
  refine take_S 17 rfl (by kernel_rfl) (by kernel_rfl) hS0 (fun w' hS => by go_simp; rfl) ?_
  try simp only [Act.put, List.getElem_toArray, List.getElem_cons_succ, List.getElem_cons_zero, List.setIfInBounds_toArray, List.set_cons_zero, List.set_cons_succ]
  refine carry_S 16 rfl (by kernel_rfl) (by decide) (by kernel_rfl) (fun K hK => ?_)
  go_simp
  refine (ID_any s _ hs1).mono ?_
  rintro e wa ⟨rfl, hb⟩
  have hSa : Below w1.heap.size w1 wa := hS0.trans (hb.mono hS0.size)
  refine hK _ _ hSa ?_
  clear hK K hb
  try simp only [Act.put, List.getElem_toArray, List.getElem_cons_succ, List.getElem_cons_zero, List.setIfInBounds_toArray, List.set_cons_zero, List.set_cons_succ]
  refine carry_S 18 rfl (by kernel_rfl) (by decide) (by kernel_rfl) (fun K hK => ?_)
  go_simp
  refine (IDOf_any s _ hs1).mono ?_
  rintro e wb ⟨rfl, hb⟩
  have hSb : Below w1.heap.size w1 wb := hSa.trans (hb.mono hSa.size)
  refine hK _ _ hSb ?_
  clear hK K hb
  try simp only [Act.put, List.getElem_toArray, List.getElem_cons_succ, List.getElem_cons_zero, List.setIfInBounds_toArray, List.set_cons_zero, List.set_cons_succ]
  generalize prOf s.data.toList = P2 at *
  refine take_S (v := .bool false) 19 rfl (by kernel_rfl) (by kernel_rfl) hSb (fun w' hS => by go_simp) ?_
  try simp only [Act.put, List.getElem_toArray, List.getElem_cons_succ, List.getElem_cons_zero, List.setIfInBounds_toArray, List.set_cons_zero, List.set_cons_succ]
  refine take_S 20 rfl (by kernel_rfl) (by kernel_rfl) hSb (fun w' hS => by go_simp; rfl) ?_
  try simp only [Act.put, List.getElem_toArray, List.getElem_cons_succ, List.getElem_cons_zero, List.setIfInBounds_toArray, List.set_cons_zero, List.set_cons_succ]
  refine take_S 21 rfl (by kernel_rfl) (by kernel_rfl) hSb (fun w' hS => by go_simp; rfl) ?_
  try simp only [Act.put, List.getElem_toArray, List.getElem_cons_succ, List.getElem_cons_zero, List.setIfInBounds_toArray, List.set_cons_zero, List.set_cons_succ]
  refine take_S 22 rfl (by kernel_rfl) (by kernel_rfl) hSb (fun w' hS => by have A0 := (HA.out.below hS HA.out.lt).c0; have A1 := (HA.out.below hS HA.out.lt).c1; go_simp; rfl) ?_
  try simp only [Act.put, List.getElem_toArray, List.getElem_cons_succ, List.getElem_cons_zero, List.setIfInBounds_toArray, List.set_cons_zero, List.set_cons_succ]
  refine take_S 24 rfl (by kernel_rfl) (by kernel_rfl) hSb (fun w' hS => by have A0 := (HA.out.below hS HA.out.lt).c0; have A1 := (HA.out.below hS HA.out.lt).c1; go_simp; rfl) ?_
  try simp only [Act.put, List.getElem_toArray, List.getElem_cons_succ, List.getElem_cons_zero, List.setIfInBounds_toArray, List.set_cons_zero, List.set_cons_succ]
  refine carry_S 23 rfl (by kernel_rfl) (by decide) (by kernel_rfl) (fun K hK => ?_)
  go_simp
  refine (Text_any p l hp l0 l1 wb (H1.out.below hSb).t).mono ?_
  rintro e wc ⟨rfl, hb⟩
  have hSc : Below w1.heap.size w1 wc := hSb.trans (hb.mono hSb.size)
  refine hK _ _ hSc ?_
  clear hK K hb
  try simp only [Act.put, List.getElem_toArray, List.getElem_cons_succ, List.getElem_cons_zero, List.setIfInBounds_toArray, List.set_cons_zero, List.set_cons_succ]
  refine carry_S 25 rfl (by kernel_rfl) (by decide) (by kernel_rfl) (fun K hK => ?_)
  go_simp
  refine (RIDText_any p l hp l0 l1 wc).mono ?_
  rintro e wd ⟨rfl, hb⟩
  have hSd : Below w1.heap.size w1 wd := hSc.trans (hb.mono hSc.size)
  refine hK _ _ hSd ?_
  clear hK K hb
  try simp only [Act.put, List.getElem_toArray, List.getElem_cons_succ, List.getElem_cons_zero, List.setIfInBounds_toArray, List.set_cons_zero, List.set_cons_succ]
  generalize bs (idText p l) = TX at *
  refine take_S (v := .bool false) 26 rfl (by kernel_rfl) (by kernel_rfl) hSd (fun w' hS => by go_simp) ?_
  try simp only [Act.put, List.getElem_toArray, List.getElem_cons_succ, List.getElem_cons_zero, List.setIfInBounds_toArray, List.set_cons_zero, List.set_cons_succ]
  refine forced_S (by kernel_rfl) ?_
  simp only [List.drop_succ_cons, List.drop_zero]
  have A0 := (HA.out.below hSd HA.out.lt).c0
  have A1 := (HA.out.below hSd HA.out.lt).c1
  have B0 := (HB.out.below hSd HB.out.lt).c0
  have B1 := (HB.out.below hSd HB.out.lt).c1
  go_wp2_with fail
  refine (RIsLess_any p q l m wd).mono ?_
  rintro e we ⟨rfl, hbe⟩
  have hSe : Below w1.heap.size w1 we := hSd.trans (hbe.mono hSd.size)
  clear hSd hbe A0 A1 B0 B1
  generalize hls : lessId p q l m = LS at *
  have HLS := Lib.hid hls
  clear hls
  cases hrd : readId t.data.toList with
  | none =>
    have HRD := Lib.hid hrd
    clear hrd
    go_wp2_with fail
    refine (Read_none a t (by omega) HRD.out we (H1.out.below hSe).t (H1.out.below hSe).m (H1.out.below hSe).p ((H1.out.below hSe).s.someS _ (by decide))).mono ?_
    rintro e wf ⟨rfl, hbf⟩
    have hSf : Below w1.heap.size w1 wf := hSe.trans (hbf.mono hSe.size)
    clear hSe hbf
    have hx := Box2.mk' wf (.int .u32 0) (.int .i64 0) 25
    have hSg : Below w1.heap.size w1 (wf.alloc (.cells #[.int .u32 0, .int .i64 0] 25)) := hSf.alloc hSf.size _
    have HX := Lib.hid hx
    obtain ⟨x0, x1, _, _⟩ := hx
    clear hSf
    go_wp2_with fail
    generalize hwf : wf.heap.size = bx at *
    generalize wf.alloc (.cells #[.int .u32 0, .int .i64 0] 25) = wg at *
    refine (RReadID_any t (by omega) wg).mono ?_
    rintro e wh ⟨rfl, hbh⟩
    rw [HRD.out, show idRes none = .tuple #[.agg #[.int .u32 0, .int .i64 0], .int .i64 1] from rfl]
    have hSh : Below w1.heap.size w1 wh := hSg.trans (hbh.mono hSg.size)
    have hxh := HX.out.below hbh HX.out.lt
    have hy := Box2.mk' wh (.int .u32 0) (.int .i64 0) 25
    have hSi : Below w1.heap.size w1 (wh.alloc (.cells #[.int .u32 0, .int .i64 0] 25)) := hSh.alloc hSh.size _
    have HXi := Lib.hid (hxh.alloc (.cells #[.int .u32 0, .int .i64 0] 25))
    have HY := Lib.hid hy
    have A0 := (HA.out.below hSi HA.out.lt).c0
    have A1 := (HA.out.below hSi HA.out.lt).c1
    have B0 := (HB.out.below hSi HB.out.lt).c0
    have B1 := (HB.out.below hSi HB.out.lt).c1
    clear hSg hbh hSh hxh hy HX x0 x1
    go_wp2_with fail
    generalize hwh : wh.heap.size = by_ at *
    generalize wh.alloc (.cells #[.int .u32 0, .int .i64 0] 25) = wi at *
    refine (PLess_any p q l m wi).mono ?_
    rintro e wj ⟨rfl, hbj⟩
    rw [HLS.out]
    have hSj : Below w1.heap.size w1 wj := hSi.trans (hbj.mono hSi.size)
    have HXj := Lib.hid (HXi.out.below hbj HXi.out.lt)
    have HYj := Lib.hid (HY.out.below hbj HY.out.lt)
    have HSj := Lib.hid (H1.out.below hSj).s
    have hls : (LS == LS) = true := by simp
    clear hSi hbj A0 A1 B0 B1 HXi HY
    go_wp2_with fail
    refine (coded1_text a wj HSj.out).mono ?_
    rintro e wk ⟨rfl, hbk⟩
    have hSk : Below w1.heap.size w1 wk := hSj.trans (hbk.mono hSj.size)
    obtain ⟨x0, x1, _, _⟩ := HXj.out.below hbk HXj.out.lt
    obtain ⟨y0, y1, _, _⟩ := HYj.out.below hbk HYj.out.lt
    have hend := HB1.out.trans (hSk.mono HB1.out.size)
    clear hSj hbk HXj HYj
    go_wp2
    go_ret
    exact ⟨rfl, hend⟩
  | some r =>
    obtain ⟨rn, rk⟩ := r
    have HRD := Lib.hid hrd
    clear hrd
    go_wp2_with fail
    refine (Read_some t (by omega) rn rk HRD.out we (H1.out.below hSe).t (H1.out.below hSe).m).mono ?_
    rintro e wf ⟨rfl, hbf⟩
    have hSf : Below w1.heap.size w1 wf := hSe.trans (hbf.mono hSe.size)
    clear hSe hbf
    have hx := Box2.mk' wf (.int .u32 (rn : Int)) (.int .i64 (rk : Int)) 25
    have hSg : Below w1.heap.size w1 (wf.alloc (.cells #[.int .u32 (rn : Int), .int .i64 (rk : Int)] 25)) := hSf.alloc hSf.size _
    have HX := Lib.hid hx
    obtain ⟨x0, x1, _, _⟩ := hx
    clear hSf
    go_wp2_with fail
    generalize hwf : wf.heap.size = bx at *
    generalize wf.alloc (.cells #[.int .u32 (rn : Int), .int .i64 (rk : Int)] 25) = wg at *
    refine (RReadID_any t (by omega) wg).mono ?_
    rintro e wh ⟨rfl, hbh⟩
    rw [HRD.out, show idRes (some (rn, rk)) = .tuple #[.agg #[.int .u32 (rn : Int), .int .i64 (rk : Int)], .int .i64 0] from rfl]
    have hSh : Below w1.heap.size w1 wh := hSg.trans (hbh.mono hSg.size)
    have hxh := HX.out.below hbh HX.out.lt
    have hy := Box2.mk' wh (.int .u32 (rn : Int)) (.int .i64 (rk : Int)) 25
    have hSi : Below w1.heap.size w1 (wh.alloc (.cells #[.int .u32 (rn : Int), .int .i64 (rk : Int)] 25)) := hSh.alloc hSh.size _
    have HXi := Lib.hid (hxh.alloc (.cells #[.int .u32 (rn : Int), .int .i64 (rk : Int)] 25))
    have HY := Lib.hid hy
    have A0 := (HA.out.below hSi HA.out.lt).c0
    have A1 := (HA.out.below hSi HA.out.lt).c1
    have B0 := (HB.out.below hSi HB.out.lt).c0
    have B1 := (HB.out.below hSi HB.out.lt).c1
    clear hSg hbh hSh hxh hy HX x0 x1
    go_wp2_with fail
    generalize hwh : wh.heap.size = by_ at *
    generalize wh.alloc (.cells #[.int .u32 (rn : Int), .int .i64 (rk : Int)] 25) = wi at *
    refine (PLess_any p q l m wi).mono ?_
    rintro e wj ⟨rfl, hbj⟩
    rw [HLS.out]
    have hSj : Below w1.heap.size w1 wj := hSi.trans (hbj.mono hSi.size)
    have HXj := Lib.hid (HXi.out.below hbj HXi.out.lt)
    have HYj := Lib.hid (HY.out.below hbj HY.out.lt)
    have HSj := Lib.hid (H1.out.below hSj).s
    have hls : (LS == LS) = true := by simp
    clear hSi hbj A0 A1 B0 B1 HXi HY
    go_wp2_with fail
    refine (coded1_none a wj HSj.out).mono ?_
    rintro e wk ⟨rfl, hbk⟩
    have hSk : Below w1.heap.size w1 wk := hSj.trans (hbk.mono hSj.size)
    obtain ⟨x0, x1, _, _⟩ := HXj.out.below hbk HXj.out.lt
    obtain ⟨y0, y1, _, _⟩ := HYj.out.below hbk HYj.out.lt
    have hend := HB1.out.trans (hSk.mono HB1.out.size)
    clear hSj hbk HXj HYj
    go_wp2
    go_ret
    exact ⟨rfl, hend⟩
set_option maxRecDepth 100000 in
set_option maxHeartbeats 1000000 in
theorem PrintTells_walk (a : Nat → Addr) (s : ByteArray) (z : Int) (n0 : 0 ≤ z) (n1 : z < 4294967296) (p : Nat) (l : Int) (hp : p < 4294967296) (l0 : -9223372036854775808 ≤ l) (l1 : l ≤ 9223372036854775807) (q : Nat) (m : Int) (hq : q < 4294967296) (t : ByteArray) (hs : s.size ≤ maxLen) (ht : t.size ≤ maxLen) (w : World) (h : PriW a w) :
    Calls Tryz.prog 4 #[.string s, .int .u32 z, .agg #[.int .u32 (p : Int), .int .i64 l], .agg #[.int .u32 (q : Int), .int .i64 m], .string t] w fun e w' => e = .returned (.bool true) ∧ Below w.heap.size w w' := by
  obtain ⟨n, rfl⟩ : ∃ n : Nat, z = (n : Int) := ⟨z.toNat, by omega⟩
  have hn : n < 4294967296 := by omega
  have hb0 : Below w.heap.size w ((w.alloc (.cells #[.int .u32 (p : Int), .int .i64 l] 25)).alloc (.cells #[.int .u32 (q : Int), .int .i64 m] 25)) := ((Below.refl _ w).alloc (Nat.le_refl _) _).alloc (by simp) _
  by_cases h1 : s.size ≤ 500
  · by_cases h2 : t.size ≤ 40
    · exact PrintTells_small a s t n p q l m hn hp hq l0 l1 w h h1 h2
    · have hs2 : ¬ (500 : Int) < (s.size : Int) := by omega
      have ht2 : (40 : Int) < (t.size : Int) := by omega
      have H0 := Lib.hid (h.below hb0)
      unfold maxLen at hs ht
      clear h
      go_enter Tryz.func4, Tryz.ntmps4
      go_wp2_with fail
      generalize (w.alloc (.cells #[.int .u32 (p : Int), .int .i64 l] 25)).alloc (.cells #[.int .u32 (q : Int), .int .i64 m] 25) = w0 at *
      refine (printed_any w0 ⟨H0.out.t, H0.out.m⟩).mono ?_
      rintro e w1 ⟨rfl, hb1⟩
      have hB1 := hb0.trans (hb1.mono hb0.size)
      go_wp2
      go_ret
      exact ⟨rfl, hB1⟩
  · have hs2 : (500 : Int) < (s.size : Int) := by omega
    have H0 := Lib.hid (h.below hb0)
    unfold maxLen at hs ht
    clear h
    go_enter Tryz.func4, Tryz.ntmps4
    go_wp2_with fail
    generalize (w.alloc (.cells #[.int .u32 (p : Int), .int .i64 l] 25)).alloc (.cells #[.int .u32 (q : Int), .int .i64 m] 25) = w0 at *
    refine (printed_any w0 ⟨H0.out.t, H0.out.m⟩).mono ?_
    rintro e w1 ⟨rfl, hb1⟩
    have hB1 := hb0.trans (hb1.mono hb0.size)
    go_wp2
    go_ret
    exact ⟨rfl, hB1⟩
end Go.Proofs.YtpacalklcdlhoaaGreatDoor

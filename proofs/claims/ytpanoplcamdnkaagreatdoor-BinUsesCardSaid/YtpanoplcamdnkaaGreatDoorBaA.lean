/- Walks of the law's longActs, binned. Condition: the sentinels that are read lie as named (SomeS). -/
import Derived.Test.YtpanoplcamdnkaaGreatDoorOpenA
import Derived.Test.YtpanoplcamdnkaaGreatDoorBin1
namespace Go.Proofs.YtpanoplcamdnkaaGreatDoor
open Go.RowKit Go.Lib

def longAct (x : ActB) : Bool := decide (20 < x.kind.length) || decide (100 < x.s.length)
def longActsB (l : List ActB) : Bool := decide (80 < l.length) || l.any longAct
theorem longA_next {l : List ActB} {k : Nat} (hk : k < l.length) (h : (l.take k).any longAct = false) (hx : longAct l[k] = false) : (l.take (k + 1)).any longAct = false := by
  rw [List.take_succ_eq_append_getElem hk, List.any_append, h, List.any_cons, hx]; rfl
theorem longA_hit {l : List ActB} {k : Nat} (hk : k < l.length) (hx : longAct l[k] = true) : longActsB l = true := by
  unfold longActsB
  rw [Bool.or_eq_true]
  exact .inr (List.any_eq_true.2 ⟨_, List.getElem_mem hk, hx⟩)
set_option maxRecDepth 100000 in
set_option maxHeartbeats 1000000 in
theorem longActs_any (v : Value) (l : List ActB) (hl : l.length ≤ maxLen) (hz : ∀ x ∈ l, x.kind.length ≤ maxLen ∧ x.s.length ≤ maxLen) (B : Nat) (w : World) (hv : ActRd w B v l) :
    Calls Tryz.prog 19 #[v] w fun e w' => e = .returned (.bool (longActsB l)) ∧ w = w' := by
  obtain ⟨A, c, rfl, hlc, hx⟩ := hv
  have HX := Lib.hid hx
  have HZ := Lib.hid hz
  clear hx hz
  unfold maxLen at hl
  by_cases h80 : 80 < l.length
  · have h80i : (l.length : Int) > 80 := by omega
    have HP : Hid (longActsB l = true) := Lib.hid (by unfold longActsB; rw [decide_eq_true h80]; rfl)
    go_enter Tryz.func19, Tryz.ntmps19
    go_wp2
    go_ret
    exact ⟨by rw [HP.out]; rfl, rfl⟩
  · have h80i : ¬ (l.length : Int) > 80 := by omega
    go_enter Tryz.func19, Tryz.ntmps19
    go_wp2
    go_loopg [3] l.length (fun gh vi wr => ∃ k : Nat, vi = .int .i64 k ∧ k ≤ l.length ∧ gh = l.length - k ∧ Hid ((l.take k).any longAct = false) ∧ w = wr)
    case atStart => exact ⟨0, rfl, Nat.zero_le _, rfl, Lib.hid rfl, rfl⟩
    case round =>
      obtain ⟨k, rfl, hk, hgm, hno, rfl⟩ := hrel
      by_cases hkl : k < l.length
      · obtain ⟨g, o, rfl, hg, hcells⟩ := HX.out (by omega)
        obtain ⟨c0, c1, _, _⟩ := hcells k hkl
        have b1 : (0 : Int) ≤ (k : Int) := by omega
        have b2 : (k : Int) < (l.length : Int) := by omega
        have hsz := HZ.out l[k] (List.getElem_mem hkl)
        unfold maxLen at hsz
        have z0 : (bs l[k].kind).size = l[k].kind.length := bs_size _
        have z1 : (bs l[k].s).size = l[k].s.length := bs_size _
        have Z0 := Lib.hid z0
        have Z1 := Lib.hid z1
        clear hcells z0 z1
        have d0 : w.cell? ⟨g, o + k * 4, none⟩ = some (.string (bs l[k].kind)) := c0
        have d1 : w.cell? ⟨g, o + k * 4 + 1, none⟩ = some (.string (bs l[k].s)) := by rw [Nat.add_assoc]; exact c1
        clear c0 c1
        by_cases h1 : 20 < l[k].kind.length
        · have h1i : ((bs l[k].kind).size : Int) > 20 := by rw [Z0.out]; omega
          have HP : Hid (longActsB l = true) := Lib.hid (longA_hit hkl (by unfold longAct; rw [decide_eq_true h1]; rfl))
          clear h1
          go_wp2
          go_ret
          exact ⟨by rw [HP.out]; rfl, rfl⟩
        · have h1i : ¬ ((bs l[k].kind).size : Int) > 20 := by rw [Z0.out]; omega
          by_cases h2 : 100 < l[k].s.length
          · have h2i : ((bs l[k].s).size : Int) > 100 := by rw [Z1.out]; omega
            have HP : Hid (longActsB l = true) := Lib.hid (longA_hit hkl (by unfold longAct; rw [decide_eq_true h2, Bool.or_true]))
            clear h1 h2
            go_wp2
            go_ret
            exact ⟨by rw [HP.out]; rfl, rfl⟩
          · have h2i : ¬ ((bs l[k].s).size : Int) > 100 := by rw [Z1.out]; omega
            have HN := Lib.hid (longA_next hkl hno.out (by unfold longAct; rw [decide_eq_false h1, decide_eq_false h2]; rfl))
            clear h1 h2
            go_wp2
            go_roundg (l.length - (k + 1))
            case measure => omega
            case rel => exact ⟨k + 1, by go_num, hkl, rfl, HN, rfl⟩
      · obtain rfl : k = l.length := by omega
        have HP : Hid (longActsB l = false) := Lib.hid (by
          have h := hno.out
          rw [List.take_length] at h
          unfold longActsB; rw [decide_eq_false h80, h]; rfl)
        clear hno
        go_wp2
        go_ret
        exact ⟨by rw [HP.out]; rfl, rfl⟩
def hiL : Bytes := [104, 105]
def hi1 : HldL := [⟨idOf hiL, 1, hiL⟩]
def hi2 : HldL := [⟨idOf hiL, 2, hiL⟩]
theorem put_hi1 : putB hiL [] = (hi1, idOf hiL, true, 0) := by
  unfold putB
  rw [if_neg (by decide)]; rfl
theorem get_hi1 : getB hi1 (idOf hiL) = some ⟨idOf hiL, 1, hiL⟩ := by unfold getB hi1; rw [List.find?_cons]; simp
theorem get_hi2 : getB hi2 (idOf hiL) = some ⟨idOf hiL, 2, hiL⟩ := by unfold getB hi2; rw [List.find?_cons]; simp
theorem put_hi2 : putB hiL hi1 = (hi2, idOf hiL, false, 0) := by
  unfold putB
  rw [if_neg (by decide), get_hi1]
  show (if hiL ≠ hiL then _ else (setB ⟨idOf hiL, 1 + 1, hiL⟩ hi1, idOf hiL, false, 0)) = _
  rw [if_neg (by simp)]
  unfold hi1 setB
  rw [if_pos rfl]; rfl
theorem ok_hi1 : BinOk 1 hi1 := by have := binOk_put (n := 0) (Int.le_refl _) (BinOk.nil 0) hiL; rw [put_hi1] at this; exact this
theorem ok_hi2 : BinOk 2 hi2 := by have := binOk_put (n := 1) (by decide) ok_hi1 hiL; rw [put_hi2] at this; exact this
theorem res_hi2 : getRes hi2 (idOf hiL) = (hiL, 0) := by unfold getRes; rw [get_hi2]
theorem size_hi2 : sizeB hi2 = 2 := by rfl
theorem idok_hi : IdOk (idOf hiL) := by have h := (ok_hi1.all ⟨idOf hiL, 1, hiL⟩ List.mem_cons_self).idok; exact h
theorem below_gb {base : Nat} {w0 w w' : World} {mb : Nat} (hB : Below base w0 w) (hb : base ≤ w.heap.size) (hg : w.grownBy w' (some mb)) (hm : base ≤ mb) : Below base w0 w' :=
  hB.grown hg hb (fun b he => by injection he with he; omega)
theorem SomeS.part {ks js : List Nat} {a : Nat → Addr} {w : World} (h : SomeS ks a w) (hj : ∀ k ∈ js, k ∈ ks) : SomeS js a w := fun k hk => h k (hj k hk)
set_option maxRecDepth 100000 in
set_option maxHeartbeats 2000000 in
theorem binned_any (a : Nat → Addr) (w : World) (hs : SomeS [1, 4, 6, 9] a w) : Calls Tryz.prog 18 #[] w fun e w' => e = .returned (.bool true) ∧ Below w.heap.size w w' := by
  have HS := Lib.hid hs
  clear hs
  go_enter Tryz.func18, Tryz.ntmps18
  go_wp2_with fail
  refine (BnNew_any w).mono ?_
  rintro e w1 ⟨b, mb, rfl, hB1, hb, hmb, hb1⟩
  have HB1 := Lib.hid hb1
  have HO1 := Lib.hid hB1
  have HML := Lib.hid hmb
  clear hB1 hb1 hmb
  go_wp2_with fail
  refine (BnPut_any a b mb [] 0 (by decide) (BinOk.nil 0) (by decide) hiL (by decide) w1 HO1.out ((HS.out.below HB1.out).part (by decide))).mono ?_
  rintro e w2 ⟨r2, rfl, hev, hO2, hg2⟩
  rw [put_hi1] at hev hO2 ⊢
  obtain ⟨rfl, _⟩ := hev.nil rfl
  have hb2 := below_gb HB1.out HB1.out.size hg2 HML.out
  have ha3 := (Below.refl w2.heap.size w2).alloc (Nat.le_refl _) (.cells #[.int .u32 ((idOf hiL).1 : Int), .int .i64 (idOf hiL).2] 47)
  have hx3 : Box2 w2.heap.size (.int .u32 ((idOf hiL).1 : Int)) (.int .i64 (idOf hiL).2) (w2.alloc (.cells #[.int .u32 ((idOf hiL).1 : Int), .int .i64 (idOf hiL).2] 47)) := Box2.mk' _ _ _ _
  have HX3 := Lib.hid hx3
  have HB3 := Lib.hid (hb2.trans (ha3.mono hb2.size))
  have HO3 := Lib.hid (hO2.below ha3)
  have HM2 := Lib.hid hO2.map.lt
  clear hev hO2 hg2 hb2 ha3 hx3
  go_wp2_with fail
  generalize hw3 : w2.alloc (.cells #[.int .u32 ((idOf hiL).1 : Int), .int .i64 (idOf hiL).2] 47) = w3 at *
  clear hw3
  refine (BnPut_any a b mb hi1 1 (by decide) ok_hi1 (by decide) hiL (by decide) w3 HO3.out ((HS.out.below HB3.out).part (by decide))).mono ?_
  rintro e w4 ⟨r4, rfl, hev, hO4, hg4⟩
  rw [put_hi2] at hev hO4 ⊢
  obtain ⟨rfl, _⟩ := hev.nil rfl
  have hb4 := below_gb HB3.out HB3.out.size hg4 HML.out
  have hx4 := gb_box2 hg4 (by intro e; have := HM2.out; omega) HX3.out
  have ha5 := (Below.refl w4.heap.size w4).alloc (Nat.le_refl _) (.cells #[.int .u32 ((idOf hiL).1 : Int), .int .i64 (idOf hiL).2] 47)
  have hx5 := hx4.below ha5 hx4.lt
  have HB5 := Lib.hid (hb4.trans (ha5.mono hb4.size))
  have HO5 := Lib.hid (hO4.below ha5)
  obtain ⟨x0, x1, _, _⟩ := hx5
  clear hev hO4 hg4 hb4 ha5 hx4
  go_wp2_with fail
  generalize hw5 : w4.alloc (.cells #[.int .u32 ((idOf hiL).1 : Int), .int .i64 (idOf hiL).2] 47) = w5 at *
  clear hw5
  refine (BnGet_any a b mb hi2 ok_hi2.idok (idOf hiL) idok_hi w5 HO5.out ((HS.out.below HB5.out).part (by decide))).mono ?_
  rintro e w6 ⟨r6, rfl, hev, hb6⟩
  rw [res_hi2] at hev ⊢
  obtain ⟨rfl, _⟩ := hev.nil rfl
  have HB6 := Lib.hid (HB5.out.trans (hb6.mono HB5.out.size))
  have SZ := Lib.hid (BnSize_any b mb hi2 2 ok_hi2 (by decide) w6 (HO5.out.below hb6))
  rw [size_hi2] at SZ
  rw [show VT (hiL, (0 : Int)).1 = .string ⟨#[104, 105]⟩ from rfl]
  clear hev hb6 x0 x1
  go_wp2_with fail
  refine SZ.out.mono ?_
  rintro e w7 ⟨rfl, hb7⟩
  have HB7 := Lib.hid (HB6.out.trans (hb7.mono HB6.out.size))
  go_wp2
  go_ret
  exact ⟨rfl, HB7.out⟩
end Go.Proofs.YtpanoplcamdnkaaGreatDoor

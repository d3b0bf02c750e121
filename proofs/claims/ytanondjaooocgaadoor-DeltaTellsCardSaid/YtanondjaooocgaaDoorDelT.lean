/- Walk of the law DeltaTells. Condition: the twelve sentinels and the type handle lie as the text lays them (Sents). -/
import Derived.Test.YtanondjaooocgaaDoorDelA
import Derived.Test.YtanondjaooocgaaDoorDelB
import Derived.Test.YtanondjaooocgaaDoorErrV
namespace Go.Proofs.YtanondjaooocgaaDoor
open Go.RowKit Go.Lib

/-- Apply's error by number and place -/
theorem Sents.gl {a : Nat → Addr} {w : World} (h : Sents a w) : Gl 60 (.pointer (some (a 1))) (.pointer (some (a 2))) w :=
  ⟨World.block_lt_of_cell? w _ (h.cell 1 (by decide)), World.block_lt_of_cell? w _ (h.cell 2 (by decide)), h.cell 1 (by decide), h.cell 2 (by decide)⟩
theorem apply_errV {a : Nat → Addr} {hv : List Bytes} {l : List DOp} {w : World} {e : Ending} {w' : World} (h : Sents a w) (hp : ApplyPost hv l (.iface 60 (.pointer (some (a 1)))) (.iface 60 (.pointer (some (a 2)))) w e w') :
    Below w.heap.size w w' ∧ ∃ v, e = .returned (.tuple #[.string (bs (refText hv l)), v]) ∧ ErrV a v (refFault hv l).1 (refFault hv l).2 w' := by
  obtain ⟨hb, hp⟩ := hp
  have hS := h.below hb
  refine ⟨hb, ?_⟩
  unfold refText refFault
  cases hf : firstErr hv 0 l with
  | none =>
    rw [hf] at hp
    exact ⟨.nilIface, hp, ErrV.none a w'⟩
  | some x =>
    obtain ⟨i, b⟩ := x
    rw [hf] at hp
    obtain ⟨g, he, _, hc⟩ := hp
    refine ⟨_, he, ?_⟩
    cases b with
    | true => exact ErrV.fault hS 1 (by decide) (b := g) (o := 0) (by simp [World.cell?, hc]) (by simp [World.cell?, hc, sval])
    | false => exact ErrV.fault hS 2 (by decide) (b := g) (o := 0) (by simp [World.cell?, hc]) (by simp [World.cell?, hc, sval])
theorem faultedB_hit (c t : Int) : faultedB c t c t = true := by simp [faultedB]
theorem opsVal_bound (old : ByteArray) (l : List DOp) (m : Nat) (h : ∀ o ∈ l, o.text.length ≤ m) : (opsVal (pieces old.data.toList) l).length ≤ l.length * (old.size + m) := by
  induction l with
  | nil => simp [opsVal]
  | cons o l ih =>
    have h1 := ih (fun q hq => h q (List.mem_cons_of_mem _ hq))
    have h2 : (opVal (pieces old.data.toList) o).length ≤ old.size + m := by
      unfold opVal
      split
      · have := h o List.mem_cons_self; omega
      · have hf := pieces_flatten old.data.toList
        have h3 : ((((pieces old.data.toList).drop o.from_.toNat).take o.many.toNat).flatten).length ≤ ((pieces old.data.toList).flatten).length := by
          conv => rhs; rw [← List.take_append_drop o.from_.toNat (pieces old.data.toList), List.flatten_append, List.length_append, ← List.take_append_drop o.many.toNat ((pieces old.data.toList).drop o.from_.toNat), List.flatten_append, List.length_append]
          omega
        rw [hf, ← size_toList] at h3
        omega
    rw [show opsVal (pieces old.data.toList) (o :: l) = opVal (pieces old.data.toList) o ++ opsVal (pieces old.data.toList) l from rfl, List.length_append, List.length_cons, Nat.succ_mul]
    omega
theorem opsSize_take_succ (l : List DOp) (k : Nat) (h : k < l.length) : opsSize (l.take (k + 1)) = opsSize (l.take k) + l[k].text.length := by
  rw [List.take_succ_eq_append_getElem h, opsSize_append]; simp [opsSize]
theorem opsSize_take_le (l : List DOp) (k : Nat) : opsSize (l.take k) ≤ opsSize l := by
  conv => rhs; rw [← List.take_append_drop k l, opsSize_append]
  omega

set_option maxRecDepth 100000 in
set_option maxHeartbeats 4000000 in
theorem DeltaTells_some (a : Nat → Addr) (old s : ByteArray) (v : Value) (l : List DOp) (ho : old.size ≤ 800) (hs : s.size ≤ 800) (w : World) (hl : l.length ≤ 20) (hx : RdM w w.heap.size 3 v l.length (opRow l))
    (hwf : ∀ o ∈ l, (Lit.int .i64 o.from_).wf = true ∧ (Lit.int .i64 o.many).wf = true) (hts : ∀ o ∈ l, o.text.length ≤ maxLen) (h : Sents a w) :
    Calls Tryd.prog 5 #[.string old, .string s, v] w fun e w' => e = .returned (.bool true) ∧ Below w.heap.size w w' := by
  have HS := Lib.hid h
  have HX := Lib.hid hx
  have HWF := Lib.hid hwf
  have HTS := Lib.hid hts
  have hfm : ∃ A c, v = .slice A l.length c := by
    obtain ⟨A, c, h1, _⟩ := hx
    exact ⟨A, c, h1⟩
  obtain ⟨A, c, rfl⟩ := hfm
  clear h hx hwf hts
  go_enter Tryd.func5, Tryd.ntmps5
  go_wp2_with fail
  refine (differs_any _ _ _ _ HS.out.gl).mono ?_
  rintro e W1 ⟨rfl, hb1⟩
  have B1 := Lib.hid hb1
  clear hb1
  go_wp2_with fail
  refine (DMake_made old s (by omega) (by omega) _).mono ?_
  rintro e W2 ⟨v2, rfl, hr2, hb2⟩
  have B2 := Lib.hid (B1.out.trans (hb2.mono B1.out.size))
  clear hb2
  go_wp2_with fail
  refine (MakeOf_any old s (by omega) (by omega) _).mono ?_
  rintro e W3 ⟨v3, rfl, hr3, hb3⟩
  have B3 := Lib.hid (B2.out.trans (hb3.mono B2.out.size))
  have X2 := ((RdM.own hr2).below hb3).more hb3.size
  have X3 := RdM.own hr3
  have hml := made_length old s
  have hmz := made_size old s
  have HD : Hid (mkD (pieces old.data.toList) (pieces s.data.toList).length (pieces s.data.toList) [] = made old s) := Lib.hid rfl
  rw [HD.out] at X3
  rw [HD.out] at hr3
  generalize made old s = md at *
  obtain ⟨A2, c2, rfl, _, _, hd2⟩ := X2
  obtain ⟨A3, c3, rfl, _, _, hd3⟩ := X3
  have HD2 := Lib.hid hd2
  have HD3 := Lib.hid hd3
  have HX2 := Lib.hid ((RdM.own hr2).below hb3)
  clear hd2 hd3 hr2 hr3
  have hb3 := hb3.size
  go_wp2
  go_loopg [10, 11] md.length (fun gh vn vi wr => ∃ k : Nat, vi = .int .i64 k ∧ k ≤ md.length ∧ gh = md.length - k ∧ vn = .int .i64 (opsSize (md.take k)) ∧ ∃ q, wr = W3.drewN q)
  case atStart => exact ⟨0, rfl, Nat.zero_le _, rfl, rfl, 0, rfl⟩
  case round =>
    obtain ⟨k, rfl, hk, rfl, rfl, q, rfl⟩ := hrel
    by_cases hlt : k < md.length
    · obtain ⟨g2, o2, rfl, hg2, hc2⟩ := HD2.out (by omega)
      obtain ⟨g3, o3, rfl, hg3, hc3⟩ := HD3.out (by omega)
      obtain ⟨x1, x2, x3⟩ := opRow_get hc2 k hlt
      obtain ⟨y1, y2, y3⟩ := opRow_get hc3 k hlt
      have b1 : (k : Int) < (md.length : Int) := by omega
      have b2 : (0 : Int) ≤ (k : Int) := by omega
      have hts := opsSize_take_succ md k hlt
      have htl := opsSize_take_le md (k + 1)
      have hq : ((opsSize (md.take (k + 1)) : Nat) : Int) = (opsSize (md.take k) : Int) + ((bs md[k].text).size : Int) := by rw [bs_size, hts]; omega
      have HQ := Lib.hid hq
      have hz4 : ((bs md[k].text).size : Int) ≤ 800 := by rw [bs_size]; omega
      have hz5 : ((opsSize (md.take k) : Nat) : Int) ≤ 800 := by omega
      clear hc2 hc3 hts htl hq
      go_wp2
      go_quiet (fail)
      go_wp2
      go_roundg (md.length - (k + 1))
      case measure => omega
      case rel => exact ⟨k + 1, by go_num, hlt, rfl, by rw [HQ.out], _, rfl⟩
    · obtain rfl : k = md.length := by omega
      have hq : md.take md.length = md := List.take_of_length_le (Nat.le_refl _)
      rw [hq]
      clear hq
      have B4 := Lib.hid (below_drewN B3.out q)
      have HS4 := Lib.hid (HS.out.below B4.out)
      have HX4 := Lib.hid (HX.out.below B4.out)
      have HY4 : Hid (RdM (W3.drewN q) W2.heap.size 3 (.slice A2 md.length c2) md.length (opRow md)) := HX2.out.keep (fun _ _ => rfl)
      have hz2 : W2.heap.size ≤ (W3.drewN q).heap.size := hb3
      generalize W3.drewN q = W4 at *
      go_wp2
      go_loopg [12] l.length (fun gh vi wr => W4 = wr ∧ ∃ k : Nat, vi = .int .i64 k ∧ k ≤ l.length ∧ gh = l.length - k ∧ Hid (∀ o ∈ l.take k, o.text.length ≤ 100))
      case atStart => exact ⟨rfl, 0, rfl, Nat.zero_le _, rfl, fun o ho => by simp at ho⟩
      case round =>
        obtain ⟨rfl, k, rfl, hk, rfl, ht⟩ := hrel
        have hfm : RdM W4 w.heap.size 3 (.slice A l.length c) l.length (opRow l) := HX4.out
        obtain ⟨A', c', hfe, _, _, hd⟩ := hfm
        injection hfe with e1 e2 e3
        subst e1; subst e3
        by_cases hlt : k < l.length
        · obtain ⟨g, o, rfl, hg, hc⟩ := hd (by omega)
          obtain ⟨x1, x2, x3⟩ := opRow_get hc k hlt
          have hmx := HTS.out _ (List.getElem_mem hlt)
          unfold maxLen at hmx
          by_cases hbig : l[k].text.length ≤ 100
          · have hz : ¬ (100 : Int) < ((bs l[k].text).size : Int) := by rw [bs_size]; omega
            have HT : Hid (∀ o ∈ l.take (k + 1), o.text.length ≤ 100) := fun o ho => by
              rw [List.take_succ_eq_append_getElem hlt, List.mem_append, List.mem_singleton] at ho
              rcases ho with ho | rfl
              · exact ht.out o ho
              · exact hbig
            clear hbig hc hd
            go_wp2
            go_roundg (l.length - (k + 1))
            case measure => omega
            case rel => exact ⟨rfl, k + 1, by go_num, hlt, rfl, HT⟩
          · have hz : (100 : Int) < ((bs l[k].text).size : Int) := by rw [bs_size]; omega
            clear hbig hc hd
            go_wp2
            go_ret
            exact ⟨rfl, B4.out⟩
        · obtain rfl : k = l.length := by omega
          have hta := ht.out
          rw [List.take_of_length_le (Nat.le_refl _)] at hta
          have hval := opsVal_bound old l 100 hta
          have hval2 : (opsVal (pieces old.data.toList) l).length ≤ 2 ^ 40 := Nat.le_trans hval (by
            have : l.length * (old.size + 100) ≤ 20 * 900 := Nat.mul_le_mul hl (by omega)
            omega)
          have HV := Lib.hid hval2
          have HX := HX4.out
          clear hta hval hval2 hd ht
          have hz4 : w.heap.size ≤ W4.heap.size := B4.out.size
          go_wp2_with fail
          refine (asOps_any _ l w.heap.size _ HX (by omega) hz4).mono ?_
          rintro e W5 ⟨v5, rfl, hr5, hb5⟩
          have HS5 := Lib.hid (HS4.out.below hb5)
          have HX5 := Lib.hid (HX.below (hb5.mono hz4))
          have HY5 := Lib.hid (HY4.out.below (hb5.mono hz2))
          have B5 := Lib.hid (B4.out.trans (hb5.mono hz4))
          have HR5 := Lib.hid (RdM.own hr5)
          have hz5 : w.heap.size ≤ W5.heap.size := B5.out.size
          have hz25 : W2.heap.size ≤ W5.heap.size := Nat.le_trans hz2 hb5.size
          clear hb5 hr5
          go_wp2_with fail
          refine (DApply_any old _ l W5.heap.size 60 (.pointer (some (a 1))) (.pointer (some (a 2))) _ (by omega) HR5.out (Nat.le_refl _) (by omega) HV.out HWF.out HS5.out.gl.b1 HS5.out.gl.b2 HS5.out.gl.c1 HS5.out.gl.c2).mono ?_
          rintro e W6 hap
          obtain ⟨hb6, v6, rfl, hev⟩ := apply_errV HS5.out hap
          have HS6 := Lib.hid (HS5.out.below hb6)
          have HX6 := Lib.hid (HX5.out.below (hb6.mono hz5))
          have HY6 := Lib.hid (HY5.out.below (hb6.mono hz25))
          have B6 := Lib.hid (B5.out.trans (hb6.mono hz5))
          have HE6 := Lib.hid hev
          have hz6 : w.heap.size ≤ W6.heap.size := B6.out.size
          have hz26 : W2.heap.size ≤ W6.heap.size := Nat.le_trans hz25 hb6.size
          clear hb6 hap hev
          go_wp2_with fail
          refine (ApplyOf_any old _ l w.heap.size _ (by omega) HX6.out hz6 (by omega) HV.out HWF.out).mono ?_
          rintro e W7 ⟨rfl, hb7⟩
          have hb8 := hb7.alloc hb7.size (.cells #[.int .i64 (refFault (pieces old.data.toList) l).1, .int .i64 (refFault (pieces old.data.toList) l).2] 49)
          have HS8 := Lib.hid (HS6.out.below hb8)
          have HY8 := Lib.hid (HY6.out.below (hb8.mono hz26))
          have B8 := Lib.hid (B6.out.trans (hb8.mono hz6))
          have HE8 := Lib.hid (HE6.out.below hb8)
          have hz28 := Nat.le_trans hz26 hb8.size
          have HH := Lib.hid (faultedB_hit (refFault (pieces old.data.toList) l).1 (refFault (pieces old.data.toList) l).2)
          clear hb7 hb8
          go_wp2_with fail
          refine (faulted3_any a v6 _ _ _ _ _ HS8.out HE8.out).mono ?_
          rintro e W9 ⟨rfl, hb9⟩
          rw [HH.out]
          have HY9 := Lib.hid (HY8.out.below (hb9.mono hz28))
          have B9 := Lib.hid (B8.out.trans (hb9.mono B8.out.size))
          have hz29 := Nat.le_trans hz28 hb9.size
          clear hb9
          go_wp2_with fail
          refine (DSize_any _ md W2.heap.size _ HY9.out (by omega) (by omega) hz29).mono ?_
          rintro e W10 ⟨rfl, hb10⟩
          have B10 := Lib.hid (B9.out.trans (hb10.mono B9.out.size))
          clear hb10
          go_wp2
          go_ret
          exact ⟨rfl, B10.out⟩

set_option maxRecDepth 100000 in
set_option maxHeartbeats 1000000 in
theorem DeltaTells_walk (a : Nat → Addr) (old s : ByteArray) (v : Value) (l : List DOp) (ho : old.size ≤ maxLen) (hs : s.size ≤ maxLen) (w : World) (hx : RdM w w.heap.size 3 v l.length (opRow l))
    (hwf : ∀ o ∈ l, (Lit.int .i64 o.from_).wf = true ∧ (Lit.int .i64 o.many).wf = true) (hts : ∀ o ∈ l, o.text.length ≤ maxLen) (hl : l.length ≤ maxLen) (h : Sents a w) :
    Calls Tryd.prog 5 #[.string old, .string s, v] w fun e w' => e = .returned (.bool true) ∧ Below w.heap.size w w' := by
  by_cases h1 : old.size ≤ 800 ∧ s.size ≤ 800 ∧ l.length ≤ 20
  · exact DeltaTells_some a old s v l h1.1 h1.2.1 w h1.2.2 hx hwf hts h
  · have HS := Lib.hid h
    have hfm : ∃ A c, v = .slice A l.length c := by
      obtain ⟨A, c, h1, _⟩ := hx
      exact ⟨A, c, h1⟩
    obtain ⟨A, c, rfl⟩ := hfm
    clear h hx hwf hts
    unfold maxLen at ho hs hl
    by_cases h2 : 800 < old.size
    · clear h1
      go_enter Tryd.func5, Tryd.ntmps5
      go_wp2_with (go_at_call 6; refine (differs_any _ _ _ _ HS.out.gl).mono ?_; rintro e W1 ⟨rfl, hb1⟩)
      go_ret
      exact ⟨rfl, hb1⟩
    · by_cases h3 : 800 < s.size
      · clear h1
        go_enter Tryd.func5, Tryd.ntmps5
        go_wp2_with (go_at_call 6; refine (differs_any _ _ _ _ HS.out.gl).mono ?_; rintro e W1 ⟨rfl, hb1⟩)
        go_ret
        exact ⟨rfl, hb1⟩
      · have h4 : 20 < l.length := by omega
        clear h1
        go_enter Tryd.func5, Tryd.ntmps5
        go_wp2_with (go_at_call 6; refine (differs_any _ _ _ _ HS.out.gl).mono ?_; rintro e W1 ⟨rfl, hb1⟩)
        go_ret
        exact ⟨rfl, hb1⟩
end Go.Proofs.YtanondjaooocgaaDoor

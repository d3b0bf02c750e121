/- Walk of recipe.Check. Condition: the sentinels that are read lie as named (SomeS). -/
import Derived.Test.YthddgclmnbaloaaDoorIds
import Derived.Test.YthddgclmnbaloaaDoorName
import Derived.OwnWalk
namespace Go.Proofs.YthddgclmnbaloaaDoor
open Go.RowKit Go.Lib

/-- bounds of a recipe's numbers, as Go's own -/
structure RcpB (r : Rcp) : Prop where
  n : r.name.length ≤ 1000000
  l0 : -9223372036854775808 ≤ r.len
  l1 : r.len ≤ 9223372036854775807
  p : r.print < 4294967296
  c : r.ids.length ≤ 1000000
  i : ∀ x ∈ r.ids, x.1 < 4294967296 ∧ -9223372036854775808 ≤ x.2 ∧ x.2 ≤ 9223372036854775807
def CheckPost (a : Nat → Addr) (r : Rcp) (w : World) (e : Ending) (w' : World) : Prop := ∃ x, e = .returned x ∧ EV a x (rcpFault r).1 (rcpFault r).2 w' ∧ Below w.heap.size w w'
theorem check_sent {a : Nat → Addr} {r : Rcp} {w w' : World} {k : Nat} (hk : k < 12) (h : rcpFault r = ((k : Int) + 1, -1)) (hb : Below w.heap.size w w') : CheckPost a r w (.returned (.iface 211 (.pointer (some (a k))))) w' :=
  ⟨_, rfl, by rw [h]; exact EV.sent a w' k hk, hb⟩
theorem fault_next {len : Int} {i : Nat} {n : Int} {L : IdL} {k : Nat} (hk : k < L.length) (h : ¬ (L[k].2 < 1 ∨ 64 < L[k].2)) : idsFault len i n (L.drop k) = idsFault len (i + 1) (n + L[k].2) (L.drop (k + 1)) := by
  rw [List.drop_eq_getElem_cons hk]
  exact if_neg h
theorem fault_hit {len : Int} {i : Nat} {n : Int} {L : IdL} {k : Nat} (hk : k < L.length) (h : L[k].2 < 1 ∨ 64 < L[k].2) : idsFault len i n (L.drop k) = (3, (i : Int)) := by
  rw [List.drop_eq_getElem_cons hk]
  exact if_pos h
set_option maxRecDepth 100000 in
set_option maxHeartbeats 2000000 in
theorem RcCheck_any (a : Nat → Addr) (v : Value) (r : Rcp) (hb : RcpB r) (w : World) (hv : RcpV w w.heap.size v r) (hs : SomeS [1, 2, 3, 6, 8] a w) :
    Calls Tryd.prog 66 #[v] w (CheckPost a r w) := by
  obtain ⟨sl, rfl, hrd⟩ := hv
  obtain ⟨A, c, rfl, hcap, hcells⟩ := hrd.form
  have hb0 : Below w.heap.size w (w.alloc (.cells #[VT r.name, .int .i64 r.len, .int .u32 (r.print : Int), .slice A r.ids.length c] 36)) := (Below.refl _ w).alloc (Nat.le_refl _) _
  have hbx : Box4 w.heap.size (VT r.name) (.int .i64 r.len) (.int .u32 (r.print : Int)) (.slice A r.ids.length c) (w.alloc (.cells #[VT r.name, .int .i64 r.len, .int .u32 (r.print : Int), .slice A r.ids.length c] 36)) := Box4.mk' _ _ _ _ _ _
  have HC := Lib.hid hcells
  have HB0 := Lib.hid hb0
  have HBX := Lib.hid hbx
  have HS := Lib.hid (hs.below hb0)
  have hnz : (bs r.name).size ≤ maxLen := by rw [bs_size]; have := hb.n; unfold maxLen; omega
  have hlz := hb.c
  have HN2 := Lib.hid (bs_toList r.name)
  clear hcells hrd hs hb0 hbx
  have name : ∀ (x : Bool), isName r.name = x → ∀ w, Calls Tryd.prog 35 #[.string (bs r.name)] w fun e w' => e = .returned (.bool x) ∧ Below w.heap.size w w' := fun x hx w => by
    have := RcName_any (bs r.name) hnz w
    rw [HN2.out, hx] at this
    exact this
  have NAME := Lib.hid name
  clear name
  cases hN : isName r.name with
  | false =>
    have hF : rcpFault r = (((3 : Nat) : Int) + 1, -1) := if_pos hN
    have HF := Lib.hid hF
    have hN2 := NAME.out false hN
    have HNM := Lib.hid hN2
    clear hF hN hN2
    go_enter Tryd.func66, Tryd.ntmps66
    go_wp2_with fail
    refine (HNM.out _).mono ?_
    rintro e w1 ⟨rfl, hb1⟩
    have s3 : w1.cell? ⟨3, 0, none⟩ = some (sval a 3) := (HS.out.below hb1) 3 (by simp)
    unfold sval at s3
    have HB9 := Lib.hid (HB0.out.trans (hb1.mono HB0.out.size))
    go_wp2
    go_ret
    exact check_sent (by decide) HF.out HB9.out
  | true =>
    have hN2 := NAME.out true hN
    have HNM := Lib.hid hN2
    have hnf : ¬ isName r.name = false := by rw [hN]; simp
    clear hN2
    by_cases h1 : r.len < 0
    · have hF : rcpFault r = (((1 : Nat) : Int) + 1, -1) := (if_neg hnf).trans (if_pos (.inl h1))
      have HF := Lib.hid hF
      clear hF hN hnf
      go_enter Tryd.func66, Tryd.ntmps66
      go_wp2_with fail
      refine (HNM.out _).mono ?_
      rintro e w1 ⟨rfl, hb1⟩
      have s3 : w1.cell? ⟨4, 0, none⟩ = some (sval a 1) := (HS.out.below hb1) 1 (by simp)
      unfold sval at s3
      have HB9 := Lib.hid (HB0.out.trans (hb1.mono HB0.out.size))
      obtain ⟨c0, c1, c2, c3, _⟩ := HBX.out.below hb1 HBX.out.lt
      go_wp2
      go_ret
      exact check_sent (by decide) HF.out HB9.out
    · by_cases h2 : 4000 < r.len
      · have hF : rcpFault r = (((1 : Nat) : Int) + 1, -1) := (if_neg hnf).trans (if_pos (.inr h2))
        have HF := Lib.hid hF
        clear hF hN hnf
        go_enter Tryd.func66, Tryd.ntmps66
        go_wp2_with fail
        refine (HNM.out _).mono ?_
        rintro e w1 ⟨rfl, hb1⟩
        have s3 : w1.cell? ⟨4, 0, none⟩ = some (sval a 1) := (HS.out.below hb1) 1 (by simp)
        unfold sval at s3
        have HB9 := Lib.hid (HB0.out.trans (hb1.mono HB0.out.size))
        obtain ⟨c0, c1, c2, c3, _⟩ := HBX.out.below hb1 HBX.out.lt
        go_wp2
        go_ret
        exact check_sent (by decide) HF.out HB9.out
      · by_cases h3 : 250 < r.ids.length
        · have h3i : 250 < (r.ids.length : Int) := by omega
          have hF : rcpFault r = (((6 : Nat) : Int) + 1, -1) := (if_neg hnf).trans ((if_neg (by omega)).trans (if_pos h3))
          have HF := Lib.hid hF
          clear hF hN hnf h3
          go_enter Tryd.func66, Tryd.ntmps66
          go_wp2_with fail
          refine (HNM.out _).mono ?_
          rintro e w1 ⟨rfl, hb1⟩
          have s3 : w1.cell? ⟨1, 0, none⟩ = some (sval a 6) := (HS.out.below hb1) 6 (by simp)
          unfold sval at s3
          have HB9 := Lib.hid (HB0.out.trans (hb1.mono HB0.out.size))
          obtain ⟨c0, c1, c2, c3, _⟩ := HBX.out.below hb1 HBX.out.lt
          go_wp2
          go_ret
          exact check_sent (by decide) HF.out HB9.out
        · have h3i : ¬ 250 < (r.ids.length : Int) := by omega
          have hF : rcpFault r = idsFault r.len 0 0 r.ids := (if_neg hnf).trans ((if_neg (by omega)).trans (if_neg h3))
          have HF := Lib.hid hF
          have HD : Hid (r.ids.drop r.ids.length = []) := Lib.hid (List.drop_eq_nil_of_le (Nat.le_refl _))
          clear hF hN hnf
          go_enter Tryd.func66, Tryd.ntmps66
          go_wp2_with fail
          refine (HNM.out _).mono ?_
          rintro e w1 ⟨rfl, hb1⟩
          obtain ⟨c0, c1, c2, c3, _⟩ := HBX.out.below hb1 HBX.out.lt
          have HS1 := Lib.hid (HS.out.below hb1)
          have HBX1 := Lib.hid (HBX.out.below hb1 HBX.out.lt)
          have HB1 := Lib.hid (HB0.out.trans (hb1.mono HB0.out.size))
          clear hb1
          go_wp2
          go_loopg [3, 31] r.ids.length (fun gh va vi wr => ∃ (k : Nat) (n : Int), vi = .int .i64 k ∧ va = .int .i64 n ∧ k ≤ r.ids.length ∧ gh = r.ids.length - k ∧ 0 ≤ n ∧ n ≤ 64 * (k : Int) ∧ Hid (idsFault r.len 0 0 r.ids = idsFault r.len k n (r.ids.drop k)) ∧ Below w1.heap.size w1 wr)
          case atStart => exact ⟨0, 0, rfl, rfl, Nat.zero_le _, rfl, by omega, by omega, Lib.hid rfl, Below.refl _ _⟩
          case round =>
            obtain ⟨k, n, rfl, rfl, hk, hgm, hn0, hn1, hI, hB⟩ := hrel
            have HB9 := Lib.hid (HB1.out.trans (hB.mono HB1.out.size))
            by_cases hkl : k < r.ids.length
            · obtain ⟨g, o, rfl, hg, hx⟩ := HC.out (by omega)
              obtain ⟨x0, x1⟩ := hx k hkl
              have y0 := (HB9.out.cell (p := ⟨g, o + k * 2, none⟩) hg).trans x0
              have y1 := (HB9.out.cell (p := ⟨g, o + k * 2 + 1, none⟩) hg).trans x1
              have b1 : (0 : Int) ≤ (k : Int) := by omega
              have b2 : (k : Int) < (r.ids.length : Int) := by omega
              clear hx x0 x1
              by_cases hbad : r.ids[k].2 < 1 ∨ 64 < r.ids[k].2
              · have hA := (Below.refl wr.heap.size wr).alloc (Nat.le_refl _) (.cells #[.int .u32 (r.ids[k].1 : Int), .int .i64 r.ids[k].2] 44)
                have s2 : (wr.alloc (.cells #[.int .u32 (r.ids[k].1 : Int), .int .i64 r.ids[k].2] 44)).cell? ⟨8, 0, none⟩ = some (sval a 2) := ((HS1.out.below hB).below hA) 2 (by simp)
                unfold sval at s2
                have HQ : Hid (CheckPost a r w (.returned (.iface 109 (.pointer (some ⟨wr.heap.size + 1, 0, none⟩)))) ((wr.alloc (.cells #[.int .u32 (r.ids[k].1 : Int), .int .i64 r.ids[k].2] 44)).alloc (.cells #[.int .i64 (k : Int), .iface 211 (.pointer (some (a 2)))] 113))) := Lib.hid (by
                  refine ⟨_, rfl, ?_, ((HB9.out.alloc HB9.out.size _).alloc (by have := HB9.out.size; simp; omega) _)⟩
                  rw [HF.out.trans (hI.out.trans (fault_hit hkl hbad))]
                  have := EV_mk a (wr.alloc (.cells #[.int .u32 (r.ids[k].1 : Int), .int .i64 r.ids[k].2] 44)) 2 (by decide) (k : Int) 113
                  simpa using this)
                clear hA
                clear hI
                rcases hbad with h5 | h5
                · go_wp2
                  go_ret
                  exact HQ.out
                · have h6 : ¬ r.ids[k].2 < 1 := by omega
                  go_wp2
                  go_ret
                  exact HQ.out
              · have HN := Lib.hid (hI.out.trans (fault_next hkl hbad))
                have h5 : ¬ r.ids[k].2 < 1 := by omega
                have h6 : ¬ 64 < r.ids[k].2 := by omega
                have HA := Lib.hid (hB.alloc hB.size (.cells #[.int .u32 (r.ids[k].1 : Int), .int .i64 r.ids[k].2] 44))
                clear hI hbad
                go_wp2
                go_roundg (r.ids.length - (k + 1))
                case measure => omega
                case rel => exact ⟨k + 1, n + r.ids[k].2, by go_num, by go_num, hkl, rfl, by omega, by omega, HN, HA.out⟩
            · obtain rfl : k = r.ids.length := by omega
              have hI2 := HF.out.trans hI.out
              rw [HD.out] at hI2
              obtain ⟨d0, d1, d2, d3, _⟩ := HBX1.out.below hB HBX1.out.lt
              by_cases hn : n = r.len
              · have hni : (n != r.len) = false := by rw [hn]; simp
                have HQ := Lib.hid (hI2.trans (if_pos hn))
                clear hI hI2 hn
                go_wp2
                go_ret
                exact ⟨_, rfl, by rw [HQ.out]; exact EV.none a _, HB9.out⟩
              · have hni : (n != r.len) = true := by simpa using hn
                have HQ := Lib.hid (hI2.trans (if_neg hn))
                have s8 : wr.cell? ⟨10, 0, none⟩ = some (sval a 8) := (HS1.out.below hB) 8 (by simp)
                unfold sval at s8
                clear hI hI2 hn
                go_wp2
                go_ret
                exact check_sent (k := 8) (by decide) HQ.out HB9.out
end Go.Proofs.YthddgclmnbaloaaDoor

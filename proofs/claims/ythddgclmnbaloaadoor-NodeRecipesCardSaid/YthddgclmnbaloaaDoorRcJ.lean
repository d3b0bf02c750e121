/- Walk of recipe.Join. Condition: the sentinels that are read lie as named (SomeS). -/
import Derived.Test.YthddgclmnbaloaaDoorRcC
import Derived.Test.YthddgclmnbaloaaDoorSJ
namespace Go.Proofs.YthddgclmnbaloaaDoor
open Go.RowKit Go.Lib

theorem joinMis_next {i : Nat} {ls : List Bytes} {L : IdL} {k : Nat} (h1 : k < ls.length) (h2 : k < L.length) (h : idOf ls[k] = L[k]) : joinMis i (ls.drop k) (L.drop k) = joinMis (i + 1) (ls.drop (k + 1)) (L.drop (k + 1)) := by
  rw [List.drop_eq_getElem_cons h1, List.drop_eq_getElem_cons h2]
  exact if_pos h
theorem joinMis_hit {i : Nat} {ls : List Bytes} {L : IdL} {k : Nat} (h1 : k < ls.length) (h2 : k < L.length) (h : ¬ idOf ls[k] = L[k]) : joinMis i (ls.drop k) (L.drop k) = some i := by
  rw [List.drop_eq_getElem_cons h1, List.drop_eq_getElem_cons h2]
  exact if_neg h
theorem joinMis_nil {i : Nat} {ls : List Bytes} {L : IdL} {k : Nat} (h1 : k = ls.length) : joinMis i (ls.drop k) (L.drop k) = none := by
  rw [List.drop_eq_nil_of_le (by omega)]
  unfold joinMis
  rfl
theorem joinMis_none : ∀ (ls : List Bytes) (L : IdL) (i : Nat), ls.length = L.length → joinMis i ls L = none → ls.map idOf = L
  | [], [], _, _, _ => rfl
  | [], _ :: _, _, h, _ => by simp at h
  | _ :: _, [], _, h, _ => by simp at h
  | p :: ls, x :: r, i, hl, h => by
    unfold joinMis at h
    split at h
    · next e => rw [List.map_cons, e, joinMis_none ls r _ (by simpa using hl) h]
    · cases h
theorem flat_le64 : ∀ (ls : List Bytes), (∀ x ∈ ls.map idOf, x.2 ≤ 64) → ls.flatten.length ≤ 64 * ls.length
  | [], _ => by simp
  | p :: r, h => by
    have h1 := flat_le64 r (fun x hx => h x (List.mem_cons_of_mem _ hx))
    have h2 : ((p.length : Nat) : Int) ≤ 64 := h (idOf p) (List.mem_cons_self ..)
    rw [List.flatten_cons, List.length_append, List.length_cons]
    omega
theorem id_eqs {p : Bytes} {x : Idn} (h : idOf p = x) : (((prOf p : Nat) : Int) == (x.1 : Int)) = true ∧ (((p.length : Nat) : Int) == x.2) = true := by
  subst h; exact ⟨by simp [idOf], by simp [idOf]⟩
theorem id_ne {p : Bytes} {x : Idn} (h : ¬ idOf p = x) : (((prOf p : Nat) : Int) == (x.1 : Int)) = false ∨ ((((prOf p : Nat) : Int) == (x.1 : Int)) = true ∧ (((p.length : Nat) : Int) == x.2) = false) := by
  by_cases h1 : prOf p = x.1
  · refine .inr ⟨by simp [h1], ?_⟩
    rw [beq_eq_false_iff_ne]
    intro e
    exact h (Prod.ext h1 e)
  · refine .inl ?_
    rw [beq_eq_false_iff_ne]; omega
def JoinPost (a : Nat → Addr) (r : Rcp) (ls : List Bytes) (w : World) (e : Ending) (w' : World) : Prop :=
  ∃ x, e = .returned (.tuple #[VT (joinRes r ls).1, x]) ∧ EV a x (joinRes r ls).2.1 (joinRes r ls).2.2 w' ∧ Below w.heap.size w w'
theorem join_bad {a : Nat → Addr} {r : Rcp} {ls : List Bytes} {w w' : World} {c t : Int} {x : Value} (h : joinRes r ls = ([], c, t)) (hx : EV a x c t w') (hb : Below w.heap.size w w') : JoinPost a r ls w (.returned (.tuple #[.string ⟨#[]⟩, x])) w' :=
  ⟨x, by rw [h]; rfl, by rw [h]; exact hx, hb⟩
set_option maxRecDepth 100000 in
set_option maxHeartbeats 2000000 in
theorem RcJoin_any (a : Nat → Addr) (v lv : Value) (r : Rcp) (hb : RcpB r) (ls : List Bytes) (hls : ls.length ≤ 1000000) (hlz : ∀ p ∈ ls, p.length ≤ 1000000) (w : World) (hv : RcpV w w.heap.size v r) (hl : Rd w w.heap.size lv (ls.map VT)) (hs : SomeS [1, 2, 3, 6, 8] a w) :
    Calls Tryd.prog 51 #[v, lv] w (JoinPost a r ls w) := by
  obtain ⟨sl, rfl, hrd⟩ := hv
  have hb0 : Below w.heap.size w (w.alloc (.cells #[VT r.name, .int .i64 r.len, .int .u32 (r.print : Int), sl] 36)) := (Below.refl _ w).alloc (Nat.le_refl _) _
  have hbx : Box4 w.heap.size (VT r.name) (.int .i64 r.len) (.int .u32 (r.print : Int)) sl (w.alloc (.cells #[VT r.name, .int .i64 r.len, .int .u32 (r.print : Int), sl] 36)) := Box4.mk' _ _ _ _ _ _
  have CK := Lib.hid (RcCheck_any a (.agg #[VT r.name, .int .i64 r.len, .int .u32 (r.print : Int), sl]) r hb (w.alloc (.cells #[VT r.name, .int .i64 r.len, .int .u32 (r.print : Int), sl] 36)) ⟨sl, rfl, (hrd.keep hb0 (Nat.le_refl _)).more hb0.size⟩ (hs.below hb0))
  have HRD := Lib.hid (hrd.keep hb0 (Nat.le_refl _))
  have HLD := Lib.hid (hl.below hb0)
  obtain ⟨A, c, rfl, hcap, _⟩ := hrd.form
  obtain ⟨A2, c2, rfl, hcap2, _⟩ := hl
  rw [List.length_map] at hcap2 ⊢
  have HB0 := Lib.hid hb0
  have HBX := Lib.hid hbx
  have HS := Lib.hid (hs.below hb0)
  have HB := Lib.hid hb
  have HLZ := Lib.hid hlz
  clear hrd hs hb0 hbx hb hlz
  by_cases h0 : (rcpFault r).1 = 0
  · obtain ⟨q1, q2, q3, q4, q5⟩ := rcpFault_name h0
    have H6 := Lib.hid (idsFault_lens _ _ 0 0 (show (idsFault r.len 0 0 r.ids).1 = 0 by rw [q5]))
    have HX := Lib.hid h0
    clear q1 q5
    by_cases hln : ls.length = r.ids.length
    · have hlni : ((ls.length : Int) != (r.ids.length : Int)) = false := by rw [hln]; simp
      have HJ : Hid (joinRes r ls = joinEnd r ls (joinMis 0 ls r.ids)) := Lib.hid (by unfold joinRes; rw [if_neg (by rw [h0]; simp), if_neg (by rw [hln]; simp)])
      have HLN := Lib.hid hln
      have hl250 : ls.length ≤ 250 := by omega
      clear h0 hln
      go_enter Tryd.func51, Tryd.ntmps51
      go_wp2_with fail
      refine CK.out.mono ?_
      rintro e w1 ⟨x, rfl, hev, hb1⟩
      obtain ⟨rfl, _⟩ := hev.nil HX.out
      have HBX1 := Lib.hid (HBX.out.below hb1 HBX.out.lt)
      have HS1 := Lib.hid (HS.out.below hb1)
      have HB1 := Lib.hid (HB0.out.trans (hb1.mono HB0.out.size))
      have HRD1 := Lib.hid (HRD.out.keep hb1 (HB0.out.size))
      have HLD1 := Lib.hid (HLD.out.keep (fun p hp => hb1.cell (p := p) (Nat.lt_of_lt_of_le hp HB0.out.size)))
      obtain ⟨d0, d1, d2, d3, _⟩ := HBX1.out
      clear hb1 hev
      go_wp2
      go_loopg [24] ls.length (fun gh vi wr => ∃ k : Nat, vi = .int .i64 k ∧ k ≤ ls.length ∧ gh = ls.length - k ∧ Hid (joinMis 0 ls r.ids = joinMis k (ls.drop k) (r.ids.drop k)) ∧ Below w1.heap.size w1 wr)
      case atStart => exact ⟨0, rfl, Nat.zero_le _, rfl, Lib.hid rfl, Below.refl _ _⟩
      case round =>
        obtain ⟨k, rfl, hk, hgm, hM, hB⟩ := hrel
        have HBXr := Lib.hid (HBX1.out.below hB HBX1.out.lt)
        have HB9 := Lib.hid (HB1.out.trans (hB.mono HB1.out.size))
        obtain ⟨A', c', hv', _, hcells⟩ := HRD1.out.form
        injection hv' with e1 e2 e3
        obtain ⟨A3, c3, hv3, _, hc3⟩ := HLD1.out
        injection hv3 with e4 e5 e6
        subst e1
        subst e4
        by_cases hkl : k < ls.length
        · have hkr : k < r.ids.length := by rw [← HLN.out]; exact hkl
          obtain ⟨g, o, rfl, hg, hx⟩ := hcells (by omega)
          obtain ⟨g2, o2, rfl, hg2, hx2⟩ := hc3 (map_ne hkl)
          obtain ⟨x0, x1⟩ := hx k hkr
          have z0 : w1.cell? ⟨g2, o2 + k, none⟩ = some (.string (bs ls[k])) := hx2 k _ (by simp [hkl])
          have hg1 : g < w1.heap.size := Nat.lt_of_lt_of_le hg HB1.out.size
          have hg21 : g2 < w1.heap.size := Nat.lt_of_lt_of_le hg2 HB1.out.size
          have y0 := (hB.cell (p := ⟨g, o + k * 2, none⟩) hg1).trans x0
          have y1 := (hB.cell (p := ⟨g, o + k * 2 + 1, none⟩) hg1).trans x1
          have z1 := (hB.cell (p := ⟨g2, o2 + k, none⟩) hg21).trans z0
          have b1 : (0 : Int) ≤ (k : Int) := by omega
          have b2 : (k : Int) < (ls.length : Int) := by omega
          have b3 : (k : Int) < (r.ids.length : Int) := by omega
          have hpz : (bs ls[k]).size ≤ maxLen := by
            rw [bs_size]
            have := HLZ.out ls[k] (List.getElem_mem hkl)
            unfold maxLen; omega
          have HBT := Lib.hid (bs_toList ls[k])
          have HBZ := Lib.hid (bs_size ls[k])
          have Y0 := Lib.hid y0
          have Y1 := Lib.hid y1
          have hgr : g < wr.heap.size := Nat.lt_of_lt_of_le hg1 hB.size
          clear hx hx2 x0 x1 z0 y0 y1 hcells hc3 e2 e3 e5 e6
          go_wp2
          have hS0 : Below wr.heap.size wr wr.drew := (Below.refl _ _).drew
          refine region_S (fun w' => Below wr.heap.size wr w') 7 (by kernel_rfl) (by kernel_rfl) ?_
          refine take_S 0 rfl (by kernel_rfl) (by kernel_rfl) hS0 (fun w' hS => by go_simp; rfl) ?_
          refine take_S 2 rfl (by kernel_rfl) (by kernel_rfl) hS0 (fun w' hS => by go_simp; rfl) ?_
          refine take_S 3 rfl (by kernel_rfl) (by kernel_rfl) hS0 (fun w' hS => by have A3 := (HBXr.out.below hS HBXr.out.lt).c3; go_simp; rfl) ?_
          refine take_S 4 rfl (by kernel_rfl) (by kernel_rfl) hS0 (fun w' hS => by go_simp; rfl) ?_
          refine take_S 5 rfl (by kernel_rfl) (by kernel_rfl) hS0 (fun w' hS => by go_simp; rfl) ?_
          refine take_S 6 rfl (by kernel_rfl) (by kernel_rfl) hS0 (fun w' hS => by have B0 := (hS.cell (p := ⟨g, o + k * 2, none⟩) hgr).trans Y0.out; have B1 := (hS.cell (p := ⟨g, o + k * 2 + 1, none⟩) hgr).trans Y1.out; go_simp; rfl) ?_
          refine carry_S 1 rfl (by kernel_rfl) (by decide) (by kernel_rfl) (fun K hK => ?_)
          go_simp
          refine (ID_any (bs ls[k]) _ hpz).mono ?_
          rintro e w4 ⟨rfl, hb4⟩
          have hS4 : Below wr.heap.size wr w4 := hS0.trans hb4
          rw [HBT.out, HBZ.out]
          refine hK _ _ hS4 (forced_S (by kernel_rfl) ?_)
          clear hK K
          try simp only [Act.put, List.getElem_toArray, List.getElem_cons_succ, List.getElem_cons_zero, List.setIfInBounds_toArray, List.set_cons_zero, List.set_cons_succ]
          simp only [List.drop_succ_cons, List.drop_zero]
          have HB4 := Lib.hid (hB.trans (hS4.mono hB.size))
          have HBX4 := Lib.hid (HBXr.out.below hS4 HBXr.out.lt)
          by_cases hid : idOf ls[k] = r.ids[k]
          · obtain ⟨t1, t2⟩ := id_eqs hid
            have HN := Lib.hid (hM.out.trans (joinMis_next hkl hkr hid))
            clear hid hM
            go_wp2
            go_roundg (ls.length - (k + 1))
            case measure => omega
            case rel => exact ⟨k + 1, by go_num, hkl, rfl, HN, HB4.out⟩
          · have hE : joinRes r ls = ([], 9, (k : Int)) := by rw [HJ.out, hM.out, joinMis_hit hkl hkr hid]; rfl
            have s8 : w4.cell? ⟨10, 0, none⟩ = some (sval a 8) := (HS1.out.below HB4.out) 8 (by simp)
            unfold sval at s8
            have HQ : Hid (JoinPost a r ls w (.returned (.tuple #[.string ⟨#[]⟩, .iface 109 (.pointer (some ⟨w4.heap.size, 0, none⟩))])) (w4.alloc (.cells #[.int .i64 (k : Int), .iface 211 (.pointer (some (a 8)))] 113)).drew) := Lib.hid (by
              refine join_bad hE ?_ ((HB1.out.trans (HB4.out.mono HB1.out.size)).alloc (Nat.le_trans HB1.out.size HB4.out.size) _).drew
              have := EV_mk a w4 8 (by decide) (k : Int) 113
              exact this)
            have hid' := id_ne hid
            clear hid hM hE
            rcases hid' with t1 | ⟨t1, t2⟩
            · go_wp2
              go_region
              go_wp2
              go_ret2
              exact HQ.out
            · go_wp2
              go_region
              go_wp2
              go_ret2
              exact HQ.out
        · obtain rfl : k = ls.length := by omega
          have hM0 : joinMis 0 ls r.ids = none := hM.out.trans (joinMis_nil rfl)
          have hmap := joinMis_none _ _ _ HLN.out hM0
          have hfl := flat_le64 ls (fun x hx => (H6.out x (by rw [← hmap]; exact hx)).2)
          have hrdw : Rd wr wr.heap.size _ (ls.map VT) := (HLD1.out.keep (fun p hp => hB.cell (p := p) (Nat.lt_of_lt_of_le hp HB1.out.size))).more HB9.out.size
          have J := Join_any ls ⟨#[]⟩ _ wr hrdw (by show (join _ []).length ≤ _; rw [join_flat]; omega) (by omega)
          rw [show (⟨#[]⟩ : ByteArray).data.toList = [] from rfl, join_flat] at J
          have JJ := Lib.hid J
          have hE : joinRes r ls = if prOf ls.flatten = r.print then (ls.flatten, 0, -1) else ([], 9, -1) := by rw [HJ.out, hM0]; rfl
          have HE := Lib.hid hE
          have HZ : Hid ((bs ls.flatten).size ≤ maxLen) := Lib.hid (by rw [bs_size]; unfold maxLen; omega)
          have HBT := Lib.hid (bs_toList ls.flatten)
          clear hrdw J hE hmap hfl hM0 hM hcells hc3 e2 e3 e5 e6
          rw [List.length_map] at JJ
          go_wp2_with fail
          refine JJ.out.mono ?_
          rintro e w5 ⟨rfl, hb5⟩
          have HB5 := Lib.hid (hB.trans (hb5.mono hB.size))
          have HBX5 := Lib.hid (HBXr.out.below hb5 HBXr.out.lt)
          go_wp2
          have hS0 : Below w5.heap.size w5 w5.drew := (Below.refl _ _).drew
          refine region_S (fun w' => Below w5.heap.size w5 w') 4 (by kernel_rfl) (by kernel_rfl) ?_
          refine take_S 0 rfl (by kernel_rfl) (by kernel_rfl) hS0 (fun w' hS => by go_simp; rfl) ?_
          refine take_S 2 rfl (by kernel_rfl) (by kernel_rfl) hS0 (fun w' hS => by go_simp; rfl) ?_
          refine take_S 3 rfl (by kernel_rfl) (by kernel_rfl) hS0 (fun w' hS => by have A2 := (HBX5.out.below hS HBX5.out.lt).c2; go_simp; rfl) ?_
          refine carry_S 1 rfl (by kernel_rfl) (by decide) (by kernel_rfl) (fun K hK => ?_)
          go_simp
          refine (POf_any (bs ls.flatten) _ HZ.out).mono ?_
          rintro e w6 ⟨rfl, rfl⟩
          rw [HBT.out]
          refine hK _ _ hS0 (forced_S (by kernel_rfl) ?_)
          clear hK K
          try simp only [Act.put, List.getElem_toArray, List.getElem_cons_succ, List.getElem_cons_zero, List.setIfInBounds_toArray, List.set_cons_zero, List.set_cons_succ]
          simp only [List.drop_succ_cons, List.drop_zero]
          by_cases hp : prOf ls.flatten = r.print
          · have hpi : (((prOf ls.flatten : Nat) : Int) != (r.print : Int)) = false := by rw [hp]; simp
            have HE2 := Lib.hid (HE.out.trans (if_pos hp))
            clear hp
            go_wp2
            go_ret2
            exact ⟨.nilIface, by rw [HE2.out]; rfl, by rw [HE2.out]; exact EV.none a _, (HB1.out.trans (HB5.out.mono HB1.out.size)).drew⟩
          · have hpi : (((prOf ls.flatten : Nat) : Int) != (r.print : Int)) = true := by simp; omega
            have HE2 := Lib.hid (HE.out.trans (if_neg hp))
            have s8 : w5.cell? ⟨10, 0, none⟩ = some (sval a 8) := (HS1.out.below HB5.out) 8 (by simp)
            unfold sval at s8
            clear hp
            go_wp2
            go_region
            go_wp2
            go_ret2
            exact join_bad HE2.out (EV.sent a _ 8 (by decide)) (HB1.out.trans (HB5.out.mono HB1.out.size)).drew.drew
    · have hlni : ((ls.length : Int) != (r.ids.length : Int)) = true := by simp; omega
      have HJ : Hid (joinRes r ls = ([], 3, -1)) := Lib.hid (by unfold joinRes; rw [if_neg (by rw [h0]; simp), if_pos hln])
      have HX := Lib.hid h0
      clear h0 hln
      go_enter Tryd.func51, Tryd.ntmps51
      go_wp2_with fail
      refine CK.out.mono ?_
      rintro e w1 ⟨x, rfl, hev, hb1⟩
      obtain ⟨rfl, _⟩ := hev.nil HX.out
      have HBX1 := Lib.hid (HBX.out.below hb1 HBX.out.lt)
      have HB1 := Lib.hid (HB0.out.trans (hb1.mono HB0.out.size))
      obtain ⟨d0, d1, d2, d3, _⟩ := HBX1.out
      have s2 : w1.cell? ⟨8, 0, none⟩ = some (sval a 2) := (HS.out.below hb1) 2 (by simp)
      unfold sval at s2
      clear hb1 hev
      go_wp2
      go_region
      go_wp2
      go_ret2
      exact join_bad HJ.out (EV.sent a _ 2 (by decide)) HB1.out.drew
  · have HJ : Hid (joinRes r ls = ([], rcpFault r)) := Lib.hid (if_pos h0)
    have HX := Lib.hid h0
    clear h0
    go_enter Tryd.func51, Tryd.ntmps51
    go_wp2_with fail
    refine CK.out.mono ?_
    rintro e w1 ⟨x, rfl, hev, hb1⟩
    obtain ⟨T, p, rfl⟩ := hev.some HX.out
    have HEV := Lib.hid hev
    have HB1 := Lib.hid (HB0.out.trans (hb1.mono HB0.out.size))
    clear hev hb1
    go_wp2
    go_ret2
    exact join_bad HJ.out HEV.out HB1.out
end Go.Proofs.YthddgclmnbaloaaDoor

/- ClnI, RcC, SJ, RcJ, RcM, RcBa in one text. Conditions: as each part says. -/
import Derived.Test.YtpanoplcamdnkaaGreatDoorIds1
import Derived.Test.YtpanoplcamdnkaaGreatDoorName
import Derived.OwnWalk
import Derived.Test.YtpanoplcamdnkaaGreatDoorPrt2
import Derived.Test.YtpanoplcamdnkaaGreatDoorRead
import Derived.Laws.OwnMore
import Derived.BigQuiet
/- Walk of slices.Clone at IDs. No conditions but bounds. -/
namespace Go.Proofs.YtpanoplcamdnkaaGreatDoor
open Go.RowKit Go.Lib

theorem Tr.nilI (n c : Nat) (w : World) : (binOp BinOp.eql 44 (.slice none n c) (.slice none 0 0)).run Tryz.prog w = .ok (.bool true) w := by kernel_rfl
theorem Tr.someI (a : Addr) (n c : Nat) (w : World) : (binOp BinOp.eql 44 (.slice (some a) n c) (.slice none 0 0)).run Tryz.prog w = .ok (.bool false) w := by kernel_rfl
theorem own_none (w : World) (e : TypeId) (size : Nat) : (w.alloc (.cells #[] e)).ownsRow w.heap.size e size (.slice (some ⟨w.heap.size, 0, none⟩) 0 0) 0 [] :=
  ⟨by simp, .inr ⟨w.heap.size, 0, #[], rfl, Nat.le_refl _, heap_alloc_new w _, Nat.le_refl _, Nat.zero_le _, by simp, by simp⟩⟩
set_option maxRecDepth 100000 in
set_option maxHeartbeats 1000000 in
theorem ClnI_any (v : Value) (L : IdL) (hL : L.length ≤ 1000000) (w : World) (hv : RdI w w.heap.size v L) :
    Calls Tryz.prog 92 #[v] w fun e w' => ∃ v', e = .returned v' ∧ RdB w' w.heap.size w'.heap.size v' L ∧ Below w.heap.size w w' := by
  obtain ⟨i0, hi, hz0, hz1, hz2⟩ := info_parts info_idI
  have hb0 : Below w.heap.size w (w.alloc (.cells #[] 47)) := (Below.refl _ w).alloc (Nat.le_refl _) _
  have HV := Lib.hid (hv.below hb0)
  obtain ⟨A, c, hvA⟩ : ∃ A c, v = .slice A L.length c := by obtain ⟨A, c, h, _⟩ := hv; exact ⟨A, c, h⟩
  have q1 := Tr.nilI
  have q2 := Tr.someI
  cases A with
  | none =>
    have h0 : L = [] := by
      obtain ⟨A, c', he, _, _, hx⟩ := hv
      by_cases hz : 0 < L.length
      · obtain ⟨g, o, hA, _⟩ := hx hz
        rw [hvA] at he
        injection he with e1
        rw [hA] at e1
        cases e1
      · exact List.length_eq_zero_iff.1 (by omega)
    subst h0
    subst hvA
    clear hv HV
    go_enter Tryz.func92, Tryz.ntmps92
    go_wp2
    go_ret
    exact ⟨_, rfl, RdB.nil _ _ _, Below.refl _ _⟩
  | some a =>
    subst hvA
    clear hv
    have HB0 := Lib.hid hb0
    have HO := Lib.hid (own_none w 47 2)
    clear hb0
    go_enter Tryz.func92, Tryz.ntmps92
    go_wp2_with (first | (at_builtin; refine wpList_append_rdM rfl (.tmp 5) (.tmp 6) 44 rfl w.heap.size 47 i0 (.agg #[.int .u32 0, .int .i64 0]) 2 16 Tryz.underlying44 hi hz0 hz1 hz2 rfl (by decide) _ 0 [] rfl HO.out w.heap.size _ L.length (idRow L) rfl HV.out (idRow_one _) (by unfold maxLen; omega) (by omega) HB0.out.size ?_; intro v5 w5 ho5 hg5) | fail)
    have HB5 := Lib.hid (HB0.out.grown hg5 HB0.out.size (fun j hj => by cases hj; exact Nat.le_refl _))
    have HO5 := Lib.hid ho5
    clear ho5 hg5
    go_wp2
    go_ret
    exact ⟨_, rfl, RdB.own (by simpa using HO5.out) rfl, HB5.out⟩
end Go.Proofs.YtpanoplcamdnkaaGreatDoor
/- Walk of recipe.Check. Condition: the sentinels that are read lie as named (SomeS). -/
namespace Go.Proofs.YtpanoplcamdnkaaGreatDoor
open Go.RowKit Go.Lib

/-- bounds of a recipe's numbers, as Go's own -/
structure RcpB (r : Rcp) : Prop where
  n : r.name.length ≤ 1000000
  l0 : -9223372036854775808 ≤ r.len
  l1 : r.len ≤ 9223372036854775807
  p : r.print < 4294967296
  c : r.ids.length ≤ 1000000
  i : ∀ x ∈ r.ids, x.1 < 4294967296 ∧ -9223372036854775808 ≤ x.2 ∧ x.2 ≤ 9223372036854775807
def CheckPost (a : Nat → Addr) (r : Rcp) (w : World) (e : Ending) (w' : World) : Prop := ∃ x, e = .returned x ∧ EV a x (rcpFault r).1 (rcpFault r).2 w' ∧ Below w.heap.size w w'
theorem check_sent {a : Nat → Addr} {r : Rcp} {w w' : World} {k : Nat} (hk : k < 12) (h : rcpFault r = ((k : Int) + 1, -1)) (hb : Below w.heap.size w w') : CheckPost a r w (.returned (.iface 361 (.pointer (some (a k))))) w' :=
  ⟨_, rfl, by rw [h]; exact EV.sent a w' k hk, hb⟩
theorem fault_next {len : Int} {i : Nat} {n : Int} {L : IdL} {k : Nat} (hk : k < L.length) (h : ¬ (L[k].2 < 1 ∨ 64 < L[k].2)) : idsFault len i n (L.drop k) = idsFault len (i + 1) (n + L[k].2) (L.drop (k + 1)) := by
  rw [List.drop_eq_getElem_cons hk]
  exact if_neg h
theorem fault_hit {len : Int} {i : Nat} {n : Int} {L : IdL} {k : Nat} (hk : k < L.length) (h : L[k].2 < 1 ∨ 64 < L[k].2) : idsFault len i n (L.drop k) = (3, (i : Int)) := by
  rw [List.drop_eq_getElem_cons hk]
  exact if_pos h
set_option maxRecDepth 100000 in
set_option maxHeartbeats 2000000 in
theorem RcCheck_any (a : Nat → Addr) (v : Value) (r : Rcp) (hb : RcpB r) (w : World) (hv : RcpV w w.heap.size v r) (hs : SomeS [1, 2, 3, 6, 8] a w) :
    Calls Tryz.prog 111 #[v] w (CheckPost a r w) := by
  obtain ⟨sl, rfl, hrd⟩ := hv
  obtain ⟨A, c, rfl, hcap, hcells⟩ := hrd.form
  have hb0 : Below w.heap.size w (w.alloc (.cells #[VT r.name, .int .i64 r.len, .int .u32 (r.print : Int), .slice A r.ids.length c] 65)) := (Below.refl _ w).alloc (Nat.le_refl _) _
  have hbx : Box4 w.heap.size (VT r.name) (.int .i64 r.len) (.int .u32 (r.print : Int)) (.slice A r.ids.length c) (w.alloc (.cells #[VT r.name, .int .i64 r.len, .int .u32 (r.print : Int), .slice A r.ids.length c] 65)) := Box4.mk' _ _ _ _ _ _
  have HC := Lib.hid hcells
  have HB0 := Lib.hid hb0
  have HBX := Lib.hid hbx
  have HS := Lib.hid (hs.below hb0)
  have hnz : (bs r.name).size ≤ maxLen := by rw [bs_size]; have := hb.n; unfold maxLen; omega
  have hlz := hb.c
  have HN2 := Lib.hid (bs_toList r.name)
  clear hcells hrd hs hb0 hbx
  have name : ∀ (x : Bool), isName r.name = x → ∀ w, Calls Tryz.prog 106 #[.string (bs r.name)] w fun e w' => e = .returned (.bool x) ∧ Below w.heap.size w w' := fun x hx w => by
    have := RcName_any (bs r.name) hnz w
    rw [HN2.out, hx] at this
    exact this
  have NAME := Lib.hid name
  clear name
  cases hN : isName r.name with
  | false =>
    have hF : rcpFault r = (((3 : Nat) : Int) + 1, -1) := if_pos hN
    have HF := Lib.hid hF
    have hN2 := NAME.out false hN
    have HNM := Lib.hid hN2
    clear hF hN hN2
    go_enter Tryz.func111, Tryz.ntmps111
    go_wp2_with fail
    refine (HNM.out _).mono ?_
    rintro e w1 ⟨rfl, hb1⟩
    have s3 : w1.cell? ⟨9, 0, none⟩ = some (sval a 3) := (HS.out.below hb1) 3 (by simp)
    unfold sval at s3
    have HB9 := Lib.hid (HB0.out.trans (hb1.mono HB0.out.size))
    go_wp2
    go_ret
    exact check_sent (by decide) HF.out HB9.out
  | true =>
    have hN2 := NAME.out true hN
    have HNM := Lib.hid hN2
    have hnf : ¬ isName r.name = false := by rw [hN]; simp
    clear hN2
    by_cases h1 : r.len < 0
    · have hF : rcpFault r = (((1 : Nat) : Int) + 1, -1) := (if_neg hnf).trans (if_pos (.inl h1))
      have HF := Lib.hid hF
      clear hF hN hnf
      go_enter Tryz.func111, Tryz.ntmps111
      go_wp2_with fail
      refine (HNM.out _).mono ?_
      rintro e w1 ⟨rfl, hb1⟩
      have s3 : w1.cell? ⟨3, 0, none⟩ = some (sval a 1) := (HS.out.below hb1) 1 (by simp)
      unfold sval at s3
      have HB9 := Lib.hid (HB0.out.trans (hb1.mono HB0.out.size))
      obtain ⟨c0, c1, c2, c3, _⟩ := HBX.out.below hb1 HBX.out.lt
      go_wp2
      go_ret
      exact check_sent (by decide) HF.out HB9.out
    · by_cases h2 : 4000 < r.len
      · have hF : rcpFault r = (((1 : Nat) : Int) + 1, -1) := (if_neg hnf).trans (if_pos (.inr h2))
        have HF := Lib.hid hF
        clear hF hN hnf
        go_enter Tryz.func111, Tryz.ntmps111
        go_wp2_with fail
        refine (HNM.out _).mono ?_
        rintro e w1 ⟨rfl, hb1⟩
        have s3 : w1.cell? ⟨3, 0, none⟩ = some (sval a 1) := (HS.out.below hb1) 1 (by simp)
        unfold sval at s3
        have HB9 := Lib.hid (HB0.out.trans (hb1.mono HB0.out.size))
        obtain ⟨c0, c1, c2, c3, _⟩ := HBX.out.below hb1 HBX.out.lt
        go_wp2
        go_ret
        exact check_sent (by decide) HF.out HB9.out
      · by_cases h3 : 250 < r.ids.length
        · have h3i : 250 < (r.ids.length : Int) := by omega
          have hF : rcpFault r = (((6 : Nat) : Int) + 1, -1) := (if_neg hnf).trans ((if_neg (by omega)).trans (if_pos h3))
          have HF := Lib.hid hF
          clear hF hN hnf h3
          go_enter Tryz.func111, Tryz.ntmps111
          go_wp2_with fail
          refine (HNM.out _).mono ?_
          rintro e w1 ⟨rfl, hb1⟩
          have s3 : w1.cell? ⟨1, 0, none⟩ = some (sval a 6) := (HS.out.below hb1) 6 (by simp)
          unfold sval at s3
          have HB9 := Lib.hid (HB0.out.trans (hb1.mono HB0.out.size))
          obtain ⟨c0, c1, c2, c3, _⟩ := HBX.out.below hb1 HBX.out.lt
          go_wp2
          go_ret
          exact check_sent (by decide) HF.out HB9.out
        · have h3i : ¬ 250 < (r.ids.length : Int) := by omega
          have hF : rcpFault r = idsFault r.len 0 0 r.ids := (if_neg hnf).trans ((if_neg (by omega)).trans (if_neg h3))
          have HF := Lib.hid hF
          have HD : Hid (r.ids.drop r.ids.length = []) := Lib.hid (List.drop_eq_nil_of_le (Nat.le_refl _))
          clear hF hN hnf
          go_enter Tryz.func111, Tryz.ntmps111
          go_wp2_with fail
          refine (HNM.out _).mono ?_
          rintro e w1 ⟨rfl, hb1⟩
          obtain ⟨c0, c1, c2, c3, _⟩ := HBX.out.below hb1 HBX.out.lt
          have HS1 := Lib.hid (HS.out.below hb1)
          have HBX1 := Lib.hid (HBX.out.below hb1 HBX.out.lt)
          have HB1 := Lib.hid (HB0.out.trans (hb1.mono HB0.out.size))
          clear hb1
          go_wp2
          go_loopg [3, 31] r.ids.length (fun gh va vi wr => ∃ (k : Nat) (n : Int), vi = .int .i64 k ∧ va = .int .i64 n ∧ k ≤ r.ids.length ∧ gh = r.ids.length - k ∧ 0 ≤ n ∧ n ≤ 64 * (k : Int) ∧ Hid (idsFault r.len 0 0 r.ids = idsFault r.len k n (r.ids.drop k)) ∧ Below w1.heap.size w1 wr)
          case atStart => exact ⟨0, 0, rfl, rfl, Nat.zero_le _, rfl, by omega, by omega, Lib.hid rfl, Below.refl _ _⟩
          case round =>
            obtain ⟨k, n, rfl, rfl, hk, hgm, hn0, hn1, hI, hB⟩ := hrel
            have HB9 := Lib.hid (HB1.out.trans (hB.mono HB1.out.size))
            by_cases hkl : k < r.ids.length
            · obtain ⟨g, o, rfl, hg, hx⟩ := HC.out (by omega)
              obtain ⟨x0, x1⟩ := hx k hkl
              have y0 := (HB9.out.cell (p := ⟨g, o + k * 2, none⟩) hg).trans x0
              have y1 := (HB9.out.cell (p := ⟨g, o + k * 2 + 1, none⟩) hg).trans x1
              have b1 : (0 : Int) ≤ (k : Int) := by omega
              have b2 : (k : Int) < (r.ids.length : Int) := by omega
              clear hx x0 x1
              by_cases hbad : r.ids[k].2 < 1 ∨ 64 < r.ids[k].2
              · have hA := (Below.refl wr.heap.size wr).alloc (Nat.le_refl _) (.cells #[.int .u32 (r.ids[k].1 : Int), .int .i64 r.ids[k].2] 47)
                have s2 : (wr.alloc (.cells #[.int .u32 (r.ids[k].1 : Int), .int .i64 r.ids[k].2] 47)).cell? ⟨8, 0, none⟩ = some (sval a 2) := ((HS1.out.below hB).below hA) 2 (by simp)
                unfold sval at s2
                have HQ : Hid (CheckPost a r w (.returned (.iface 134 (.pointer (some ⟨wr.heap.size + 1, 0, none⟩)))) ((wr.alloc (.cells #[.int .u32 (r.ids[k].1 : Int), .int .i64 r.ids[k].2] 47)).alloc (.cells #[.int .i64 (k : Int), .iface 361 (.pointer (some (a 2)))] 136))) := Lib.hid (by
                  refine ⟨_, rfl, ?_, ((HB9.out.alloc HB9.out.size _).alloc (by have := HB9.out.size; simp; omega) _)⟩
                  rw [HF.out.trans (hI.out.trans (fault_hit hkl hbad))]
                  have := EV_mk a (wr.alloc (.cells #[.int .u32 (r.ids[k].1 : Int), .int .i64 r.ids[k].2] 47)) 2 (by decide) (k : Int) 136
                  simpa using this)
                clear hA
                clear hI
                rcases hbad with h5 | h5
                · go_wp2
                  go_ret
                  exact HQ.out
                · have h6 : ¬ r.ids[k].2 < 1 := by omega
                  go_wp2
                  go_ret
                  exact HQ.out
              · have HN := Lib.hid (hI.out.trans (fault_next hkl hbad))
                have h5 : ¬ r.ids[k].2 < 1 := by omega
                have h6 : ¬ 64 < r.ids[k].2 := by omega
                have HA := Lib.hid (hB.alloc hB.size (.cells #[.int .u32 (r.ids[k].1 : Int), .int .i64 r.ids[k].2] 47))
                clear hI hbad
                go_wp2
                go_roundg (r.ids.length - (k + 1))
                case measure => omega
                case rel => exact ⟨k + 1, n + r.ids[k].2, by go_num, by go_num, hkl, rfl, by omega, by omega, HN, HA.out⟩
            · obtain rfl : k = r.ids.length := by omega
              have hI2 := HF.out.trans hI.out
              rw [HD.out] at hI2
              obtain ⟨d0, d1, d2, d3, _⟩ := HBX1.out.below hB HBX1.out.lt
              by_cases hn : n = r.len
              · have hni : (n != r.len) = false := by rw [hn]; simp
                have HQ := Lib.hid (hI2.trans (if_pos hn))
                clear hI hI2 hn
                go_wp2
                go_ret
                exact ⟨_, rfl, by rw [HQ.out]; exact EV.none a _, HB9.out⟩
              · have hni : (n != r.len) = true := by simpa using hn
                have HQ := Lib.hid (hI2.trans (if_neg hn))
                have s8 : wr.cell? ⟨10, 0, none⟩ = some (sval a 8) := (HS1.out.below hB) 8 (by simp)
                unfold sval at s8
                clear hI hI2 hn
                go_wp2
                go_ret
                exact check_sent (k := 8) (by decide) HQ.out HB9.out
end Go.Proofs.YtpanoplcamdnkaaGreatDoor
/- strings.Join over a slice of texts that is read. No conditions but bounds. -/
namespace Go.Proofs.YtpanoplcamdnkaaGreatDoor
open Go.RowKit Go.Lib

theorem Join_any (L : List Bytes) (sep : ByteArray) (v : Value) (w : World) (hv : Rd w w.heap.size v (L.map VT)) (hl : (join L sep.data.toList).length ≤ 1099511627776) (hn : L.length ≤ 1099511627776) :
    Calls Tryz.prog 112 #[v, .string sep] w fun e w' => e = .returned (.string (bs (join L sep.data.toList))) ∧ Below w.heap.size w w' := by
  obtain ⟨A, c, rfl, hc, hx⟩ := hv
  rw [List.length_map] at hc
  have hm : (L.map bs).map (fun x => x.data.toList) = L := by
    rw [List.map_map]
    conv => rhs; rw [← List.map_id L]
    exact List.map_congr_left (fun x _ => bs_toList x)
  cases L with
  | nil =>
    exact (Tryz.strings_Join_none A c sep w).mono fun e w' ⟨he, hw⟩ => ⟨he, by rw [hw]; exact Below.refl _ _⟩
  | cons x r =>
    obtain ⟨g, o, rfl, hg, hcell⟩ := hx (by simp)
    have h := Tryz.strings_Join g o c ((x :: r).map bs) sep w (fun j y hy => hcell j _ (by
      rw [List.getElem?_map] at hy ⊢
      cases hj : (x :: r)[j]? with
      | none => rw [hj] at hy; cases hy
      | some z => rw [hj] at hy; simp only [Option.map_some, Option.some.injEq] at hy ⊢; rw [← hy])) hg (by rw [List.length_map]; omega) (by rw [List.length_map]; exact hc) (by rw [hm]; omega)
    rw [hm, List.length_map] at h
    rw [List.length_map]
    exact h
end Go.Proofs.YtpanoplcamdnkaaGreatDoor
/- Walk of recipe.Join. Condition: the sentinels that are read lie as named (SomeS). -/
namespace Go.Proofs.YtpanoplcamdnkaaGreatDoor
open Go.RowKit Go.Lib

theorem joinMis_next {i : Nat} {ls : List Bytes} {L : IdL} {k : Nat} (h1 : k < ls.length) (h2 : k < L.length) (h : idOf ls[k] = L[k]) : joinMis i (ls.drop k) (L.drop k) = joinMis (i + 1) (ls.drop (k + 1)) (L.drop (k + 1)) := by
  rw [List.drop_eq_getElem_cons h1, List.drop_eq_getElem_cons h2]
  exact if_pos h
theorem joinMis_hit {i : Nat} {ls : List Bytes} {L : IdL} {k : Nat} (h1 : k < ls.length) (h2 : k < L.length) (h : ¬ idOf ls[k] = L[k]) : joinMis i (ls.drop k) (L.drop k) = some i := by
  rw [List.drop_eq_getElem_cons h1, List.drop_eq_getElem_cons h2]
  exact if_neg h
theorem joinMis_nil {i : Nat} {ls : List Bytes} {L : IdL} {k : Nat} (h1 : k = ls.length) : joinMis i (ls.drop k) (L.drop k) = none := by
  rw [List.drop_eq_nil_of_le (by omega)]
  unfold joinMis
  rfl
theorem joinMis_none : ∀ (ls : List Bytes) (L : IdL) (i : Nat), ls.length = L.length → joinMis i ls L = none → ls.map idOf = L
  | [], [], _, _, _ => rfl
  | [], _ :: _, _, h, _ => by simp at h
  | _ :: _, [], _, h, _ => by simp at h
  | p :: ls, x :: r, i, hl, h => by
    unfold joinMis at h
    split at h
    · next e => rw [List.map_cons, e, joinMis_none ls r _ (by simpa using hl) h]
    · cases h
theorem flat_le64 : ∀ (ls : List Bytes), (∀ x ∈ ls.map idOf, x.2 ≤ 64) → ls.flatten.length ≤ 64 * ls.length
  | [], _ => by simp
  | p :: r, h => by
    have h1 := flat_le64 r (fun x hx => h x (List.mem_cons_of_mem _ hx))
    have h2 : ((p.length : Nat) : Int) ≤ 64 := h (idOf p) (List.mem_cons_self ..)
    rw [List.flatten_cons, List.length_append, List.length_cons]
    omega
theorem id_eqs {p : Bytes} {x : Idn} (h : idOf p = x) : (((prOf p : Nat) : Int) == (x.1 : Int)) = true ∧ (((p.length : Nat) : Int) == x.2) = true := by
  subst h; exact ⟨by simp [idOf], by simp [idOf]⟩
theorem id_ne {p : Bytes} {x : Idn} (h : ¬ idOf p = x) : (((prOf p : Nat) : Int) == (x.1 : Int)) = false ∨ ((((prOf p : Nat) : Int) == (x.1 : Int)) = true ∧ (((p.length : Nat) : Int) == x.2) = false) := by
  by_cases h1 : prOf p = x.1
  · refine .inr ⟨by simp [h1], ?_⟩
    rw [beq_eq_false_iff_ne]
    intro e
    exact h (Prod.ext h1 e)
  · refine .inl ?_
    rw [beq_eq_false_iff_ne]; omega
def JoinPost (a : Nat → Addr) (r : Rcp) (ls : List Bytes) (w : World) (e : Ending) (w' : World) : Prop :=
  ∃ x, e = .returned (.tuple #[VT (joinRes r ls).1, x]) ∧ EV a x (joinRes r ls).2.1 (joinRes r ls).2.2 w' ∧ Below w.heap.size w w'
theorem join_bad {a : Nat → Addr} {r : Rcp} {ls : List Bytes} {w w' : World} {c t : Int} {x : Value} (h : joinRes r ls = ([], c, t)) (hx : EV a x c t w') (hb : Below w.heap.size w w') : JoinPost a r ls w (.returned (.tuple #[.string ⟨#[]⟩, x])) w' :=
  ⟨x, by rw [h]; rfl, by rw [h]; exact hx, hb⟩
set_option maxRecDepth 100000 in
set_option maxHeartbeats 2000000 in
theorem RcJoin_any (a : Nat → Addr) (v lv : Value) (r : Rcp) (hb : RcpB r) (ls : List Bytes) (hls : ls.length ≤ 1000000) (hlz : ∀ p ∈ ls, p.length ≤ 1000000) (w : World) (hv : RcpV w w.heap.size v r) (hl : Rd w w.heap.size lv (ls.map VT)) (hs : SomeS [1, 2, 3, 6, 8] a w) :
    Calls Tryz.prog 59 #[v, lv] w (JoinPost a r ls w) := by
  obtain ⟨sl, rfl, hrd⟩ := hv
  have hb0 : Below w.heap.size w (w.alloc (.cells #[VT r.name, .int .i64 r.len, .int .u32 (r.print : Int), sl] 65)) := (Below.refl _ w).alloc (Nat.le_refl _) _
  have hbx : Box4 w.heap.size (VT r.name) (.int .i64 r.len) (.int .u32 (r.print : Int)) sl (w.alloc (.cells #[VT r.name, .int .i64 r.len, .int .u32 (r.print : Int), sl] 65)) := Box4.mk' _ _ _ _ _ _
  have CK := Lib.hid (RcCheck_any a (.agg #[VT r.name, .int .i64 r.len, .int .u32 (r.print : Int), sl]) r hb (w.alloc (.cells #[VT r.name, .int .i64 r.len, .int .u32 (r.print : Int), sl] 65)) ⟨sl, rfl, (hrd.keep hb0 (Nat.le_refl _)).more hb0.size⟩ (hs.below hb0))
  have HRD := Lib.hid (hrd.keep hb0 (Nat.le_refl _))
  have HLD := Lib.hid (hl.below hb0)
  obtain ⟨A, c, rfl, hcap, _⟩ := hrd.form
  obtain ⟨A2, c2, rfl, hcap2, _⟩ := hl
  rw [List.length_map] at hcap2 ⊢
  have HB0 := Lib.hid hb0
  have HBX := Lib.hid hbx
  have HS := Lib.hid (hs.below hb0)
  have HB := Lib.hid hb
  have HLZ := Lib.hid hlz
  clear hrd hs hb0 hbx hb hlz
  by_cases h0 : (rcpFault r).1 = 0
  · obtain ⟨q1, q2, q3, q4, q5⟩ := rcpFault_name h0
    have H6 := Lib.hid (idsFault_lens _ _ 0 0 (show (idsFault r.len 0 0 r.ids).1 = 0 by rw [q5]))
    have HX := Lib.hid h0
    clear q1 q5
    by_cases hln : ls.length = r.ids.length
    · have hlni : ((ls.length : Int) != (r.ids.length : Int)) = false := by rw [hln]; simp
      have HJ : Hid (joinRes r ls = joinEnd r ls (joinMis 0 ls r.ids)) := Lib.hid (by unfold joinRes; rw [if_neg (by rw [h0]; simp), if_neg (by rw [hln]; simp)])
      have HLN := Lib.hid hln
      have hl250 : ls.length ≤ 250 := by omega
      clear h0 hln
      go_enter Tryz.func59, Tryz.ntmps59
      go_wp2_with fail
      refine CK.out.mono ?_
      rintro e w1 ⟨x, rfl, hev, hb1⟩
      obtain ⟨rfl, _⟩ := hev.nil HX.out
      have HBX1 := Lib.hid (HBX.out.below hb1 HBX.out.lt)
      have HS1 := Lib.hid (HS.out.below hb1)
      have HB1 := Lib.hid (HB0.out.trans (hb1.mono HB0.out.size))
      have HRD1 := Lib.hid (HRD.out.keep hb1 (HB0.out.size))
      have HLD1 := Lib.hid (HLD.out.keep (fun p hp => hb1.cell (p := p) (Nat.lt_of_lt_of_le hp HB0.out.size)))
      obtain ⟨d0, d1, d2, d3, _⟩ := HBX1.out
      clear hb1 hev
      go_wp2
      go_loopg [24] ls.length (fun gh vi wr => ∃ k : Nat, vi = .int .i64 k ∧ k ≤ ls.length ∧ gh = ls.length - k ∧ Hid (joinMis 0 ls r.ids = joinMis k (ls.drop k) (r.ids.drop k)) ∧ Below w1.heap.size w1 wr)
      case atStart => exact ⟨0, rfl, Nat.zero_le _, rfl, Lib.hid rfl, Below.refl _ _⟩
      case round =>
        obtain ⟨k, rfl, hk, hgm, hM, hB⟩ := hrel
        have HBXr := Lib.hid (HBX1.out.below hB HBX1.out.lt)
        have HB9 := Lib.hid (HB1.out.trans (hB.mono HB1.out.size))
        obtain ⟨A', c', hv', _, hcells⟩ := HRD1.out.form
        injection hv' with e1 e2 e3
        obtain ⟨A3, c3, hv3, _, hc3⟩ := HLD1.out
        injection hv3 with e4 e5 e6
        subst e1
        subst e4
        by_cases hkl : k < ls.length
        · have hkr : k < r.ids.length := by rw [← HLN.out]; exact hkl
          obtain ⟨g, o, rfl, hg, hx⟩ := hcells (by omega)
          obtain ⟨g2, o2, rfl, hg2, hx2⟩ := hc3 (map_ne hkl)
          obtain ⟨x0, x1⟩ := hx k hkr
          have z0 : w1.cell? ⟨g2, o2 + k, none⟩ = some (.string (bs ls[k])) := hx2 k _ (by simp [hkl])
          have hg1 : g < w1.heap.size := Nat.lt_of_lt_of_le hg HB1.out.size
          have hg21 : g2 < w1.heap.size := Nat.lt_of_lt_of_le hg2 HB1.out.size
          have y0 := (hB.cell (p := ⟨g, o + k * 2, none⟩) hg1).trans x0
          have y1 := (hB.cell (p := ⟨g, o + k * 2 + 1, none⟩) hg1).trans x1
          have z1 := (hB.cell (p := ⟨g2, o2 + k, none⟩) hg21).trans z0
          have b1 : (0 : Int) ≤ (k : Int) := by omega
          have b2 : (k : Int) < (ls.length : Int) := by omega
          have b3 : (k : Int) < (r.ids.length : Int) := by omega
          have hpz : (bs ls[k]).size ≤ maxLen := by
            rw [bs_size]
            have := HLZ.out ls[k] (List.getElem_mem hkl)
            unfold maxLen; omega
          have HBT := Lib.hid (bs_toList ls[k])
          have HBZ := Lib.hid (bs_size ls[k])
          have Y0 := Lib.hid y0
          have Y1 := Lib.hid y1
          have hgr : g < wr.heap.size := Nat.lt_of_lt_of_le hg1 hB.size
          clear hx hx2 x0 x1 z0 y0 y1 hcells hc3 e2 e3 e5 e6
          go_wp2
          have hS0 : Below wr.heap.size wr wr.drew := (Below.refl _ _).drew
          refine region_S (fun w' => Below wr.heap.size wr w') 7 (by kernel_rfl) (by kernel_rfl) ?_
          refine take_S 0 rfl (by kernel_rfl) (by kernel_rfl) hS0 (fun w' hS => by go_simp; rfl) ?_
          refine take_S 2 rfl (by kernel_rfl) (by kernel_rfl) hS0 (fun w' hS => by go_simp; rfl) ?_
          refine take_S 3 rfl (by kernel_rfl) (by kernel_rfl) hS0 (fun w' hS => by have A3 := (HBXr.out.below hS HBXr.out.lt).c3; go_simp; rfl) ?_
          refine take_S 4 rfl (by kernel_rfl) (by kernel_rfl) hS0 (fun w' hS => by go_simp; rfl) ?_
          refine take_S 5 rfl (by kernel_rfl) (by kernel_rfl) hS0 (fun w' hS => by go_simp; rfl) ?_
          refine take_S 6 rfl (by kernel_rfl) (by kernel_rfl) hS0 (fun w' hS => by have B0 := (hS.cell (p := ⟨g, o + k * 2, none⟩) hgr).trans Y0.out; have B1 := (hS.cell (p := ⟨g, o + k * 2 + 1, none⟩) hgr).trans Y1.out; go_simp; rfl) ?_
          refine carry_S 1 rfl (by kernel_rfl) (by decide) (by kernel_rfl) (fun K hK => ?_)
          go_simp
          refine (ID_any (bs ls[k]) _ hpz).mono ?_
          rintro e w4 ⟨rfl, hb4⟩
          have hS4 : Below wr.heap.size wr w4 := hS0.trans hb4
          rw [HBT.out, HBZ.out]
          refine hK _ _ hS4 (forced_S (by kernel_rfl) ?_)
          clear hK K
          try simp only [Act.put, List.getElem_toArray, List.getElem_cons_succ, List.getElem_cons_zero, List.setIfInBounds_toArray, List.set_cons_zero, List.set_cons_succ]
          simp only [List.drop_succ_cons, List.drop_zero]
          have HB4 := Lib.hid (hB.trans (hS4.mono hB.size))
          have HBX4 := Lib.hid (HBXr.out.below hS4 HBXr.out.lt)
          by_cases hid : idOf ls[k] = r.ids[k]
          · obtain ⟨t1, t2⟩ := id_eqs hid
            have HN := Lib.hid (hM.out.trans (joinMis_next hkl hkr hid))
            clear hid hM
            go_wp2
            go_roundg (ls.length - (k + 1))
            case measure => omega
            case rel => exact ⟨k + 1, by go_num, hkl, rfl, HN, HB4.out⟩
          · have hE : joinRes r ls = ([], 9, (k : Int)) := by rw [HJ.out, hM.out, joinMis_hit hkl hkr hid]; rfl
            have s8 : w4.cell? ⟨10, 0, none⟩ = some (sval a 8) := (HS1.out.below HB4.out) 8 (by simp)
            unfold sval at s8
            have HQ : Hid (JoinPost a r ls w (.returned (.tuple #[.string ⟨#[]⟩, .iface 134 (.pointer (some ⟨w4.heap.size, 0, none⟩))])) (w4.alloc (.cells #[.int .i64 (k : Int), .iface 361 (.pointer (some (a 8)))] 136)).drew) := Lib.hid (by
              refine join_bad hE ?_ ((HB1.out.trans (HB4.out.mono HB1.out.size)).alloc (Nat.le_trans HB1.out.size HB4.out.size) _).drew
              have := EV_mk a w4 8 (by decide) (k : Int) 136
              exact this)
            have hid' := id_ne hid
            clear hid hM hE
            rcases hid' with t1 | ⟨t1, t2⟩
            · go_wp2
              go_region
              go_wp2
              go_ret2
              exact HQ.out
            · go_wp2
              go_region
              go_wp2
              go_ret2
              exact HQ.out
        · obtain rfl : k = ls.length := by omega
          have hM0 : joinMis 0 ls r.ids = none := hM.out.trans (joinMis_nil rfl)
          have hmap := joinMis_none _ _ _ HLN.out hM0
          have hfl := flat_le64 ls (fun x hx => (H6.out x (by rw [← hmap]; exact hx)).2)
          have hrdw : Rd wr wr.heap.size _ (ls.map VT) := (HLD1.out.keep (fun p hp => hB.cell (p := p) (Nat.lt_of_lt_of_le hp HB1.out.size))).more HB9.out.size
          have J := Join_any ls ⟨#[]⟩ _ wr hrdw (by show (join _ []).length ≤ _; rw [join_flat]; omega) (by omega)
          rw [show (⟨#[]⟩ : ByteArray).data.toList = [] from rfl, join_flat] at J
          have JJ := Lib.hid J
          have hE : joinRes r ls = if prOf ls.flatten = r.print then (ls.flatten, 0, -1) else ([], 9, -1) := by rw [HJ.out, hM0]; rfl
          have HE := Lib.hid hE
          have HZ : Hid ((bs ls.flatten).size ≤ maxLen) := Lib.hid (by rw [bs_size]; unfold maxLen; omega)
          have HBT := Lib.hid (bs_toList ls.flatten)
          clear hrdw J hE hmap hfl hM0 hM hcells hc3 e2 e3 e5 e6
          rw [List.length_map] at JJ
          go_wp2_with fail
          refine JJ.out.mono ?_
          rintro e w5 ⟨rfl, hb5⟩
          have HB5 := Lib.hid (hB.trans (hb5.mono hB.size))
          have HBX5 := Lib.hid (HBXr.out.below hb5 HBXr.out.lt)
          go_wp2
          have hS0 : Below w5.heap.size w5 w5.drew := (Below.refl _ _).drew
          refine region_S (fun w' => Below w5.heap.size w5 w') 4 (by kernel_rfl) (by kernel_rfl) ?_
          refine take_S 0 rfl (by kernel_rfl) (by kernel_rfl) hS0 (fun w' hS => by go_simp; rfl) ?_
          refine take_S 2 rfl (by kernel_rfl) (by kernel_rfl) hS0 (fun w' hS => by go_simp; rfl) ?_
          refine take_S 3 rfl (by kernel_rfl) (by kernel_rfl) hS0 (fun w' hS => by have A2 := (HBX5.out.below hS HBX5.out.lt).c2; go_simp; rfl) ?_
          refine carry_S 1 rfl (by kernel_rfl) (by decide) (by kernel_rfl) (fun K hK => ?_)
          go_simp
          refine (POf_any (bs ls.flatten) _ HZ.out).mono ?_
          rintro e w6 ⟨rfl, rfl⟩
          rw [HBT.out]
          refine hK _ _ hS0 (forced_S (by kernel_rfl) ?_)
          clear hK K
          try simp only [Act.put, List.getElem_toArray, List.getElem_cons_succ, List.getElem_cons_zero, List.setIfInBounds_toArray, List.set_cons_zero, List.set_cons_succ]
          simp only [List.drop_succ_cons, List.drop_zero]
          by_cases hp : prOf ls.flatten = r.print
          · have hpi : (((prOf ls.flatten : Nat) : Int) != (r.print : Int)) = false := by rw [hp]; simp
            have HE2 := Lib.hid (HE.out.trans (if_pos hp))
            clear hp
            go_wp2
            go_ret2
            exact ⟨.nilIface, by rw [HE2.out]; rfl, by rw [HE2.out]; exact EV.none a _, (HB1.out.trans (HB5.out.mono HB1.out.size)).drew⟩
          · have hpi : (((prOf ls.flatten : Nat) : Int) != (r.print : Int)) = true := by simp; omega
            have HE2 := Lib.hid (HE.out.trans (if_neg hp))
            have s8 : w5.cell? ⟨10, 0, none⟩ = some (sval a 8) := (HS1.out.below HB5.out) 8 (by simp)
            unfold sval at s8
            clear hp
            go_wp2
            go_region
            go_wp2
            go_ret2
            exact join_bad HE2.out (EV.sent a _ 8 (by decide)) (HB1.out.trans (HB5.out.mono HB1.out.size)).drew.drew
    · have hlni : ((ls.length : Int) != (r.ids.length : Int)) = true := by simp; omega
      have HJ : Hid (joinRes r ls = ([], 3, -1)) := Lib.hid (by unfold joinRes; rw [if_neg (by rw [h0]; simp), if_pos hln])
      have HX := Lib.hid h0
      clear h0 hln
      go_enter Tryz.func59, Tryz.ntmps59
      go_wp2_with fail
      refine CK.out.mono ?_
      rintro e w1 ⟨x, rfl, hev, hb1⟩
      obtain ⟨rfl, _⟩ := hev.nil HX.out
      have HBX1 := Lib.hid (HBX.out.below hb1 HBX.out.lt)
      have HB1 := Lib.hid (HB0.out.trans (hb1.mono HB0.out.size))
      obtain ⟨d0, d1, d2, d3, _⟩ := HBX1.out
      have s2 : w1.cell? ⟨8, 0, none⟩ = some (sval a 2) := (HS.out.below hb1) 2 (by simp)
      unfold sval at s2
      clear hb1 hev
      go_wp2
      go_region
      go_wp2
      go_ret2
      exact join_bad HJ.out (EV.sent a _ 2 (by decide)) HB1.out.drew
  · have HJ : Hid (joinRes r ls = ([], rcpFault r)) := Lib.hid (if_pos h0)
    have HX := Lib.hid h0
    clear h0
    go_enter Tryz.func59, Tryz.ntmps59
    go_wp2_with fail
    refine CK.out.mono ?_
    rintro e w1 ⟨x, rfl, hev, hb1⟩
    obtain ⟨T, p, rfl⟩ := hev.some HX.out
    have HEV := Lib.hid hev
    have HB1 := Lib.hid (HB0.out.trans (hb1.mono HB0.out.size))
    clear hev hb1
    go_wp2
    go_ret2
    exact join_bad HJ.out HEV.out HB1.out
end Go.Proofs.YtpanoplcamdnkaaGreatDoor
/- Walks of slices.MinFunc over IDs, recipe.Rep. No conditions but bounds. -/
namespace Go.Proofs.YtpanoplcamdnkaaGreatDoor
open Go.RowKit Go.Lib

theorem rep_next_yes {L : IdL} {m : Idn} {k : Nat} (hk : k < L.length) (h : lesser L[k] m = true) : repFrom m (L.drop k) = repFrom L[k] (L.drop (k + 1)) := by
  rw [List.drop_eq_getElem_cons hk]
  show repFrom (if lesser L[k] m then L[k] else m) _ = _
  rw [if_pos h]
theorem rep_next_no {L : IdL} {m : Idn} {k : Nat} (hk : k < L.length) (h : lesser L[k] m = false) : repFrom m (L.drop k) = repFrom m (L.drop (k + 1)) := by
  rw [List.drop_eq_getElem_cons hk]
  show repFrom (if lesser L[k] m then L[k] else m) _ = _
  rw [if_neg (by rw [h]; simp)]
theorem cmp_yes {x m : Idn} (h : lesser x m = true) : cmpId x.1 m.1 x.2 m.2 < 0 := of_decide_eq_true ((cmpId_less _ _ _ _).trans h)
theorem cmp_no {x m : Idn} (h : lesser x m = false) : ¬ cmpId x.1 m.1 x.2 m.2 < 0 := of_decide_eq_false ((cmpId_less _ _ _ _).trans h)
set_option maxRecDepth 100000 in
set_option maxHeartbeats 2000000 in
theorem MinIDs_any (v : Value) (L : IdL) (hL : L.length ≤ 1000000) (h0 : 0 < L.length) (w : World) (hv : RdI w w.heap.size v L) :
    Calls Tryz.prog 107 #[v, .func (.func 70) #[] #[]] w fun e w' => e = .returned (idV (repOf L)) ∧ Below w.heap.size w w' := by
  obtain ⟨A, c, rfl, hcap, hcells⟩ := hv.form
  obtain ⟨g, o, rfl, hg, hx⟩ := hcells h0
  obtain ⟨x0, x1⟩ := hx 0 h0
  have HREP : Hid (repOf L = repFrom L[0] (L.drop 1)) := Lib.hid (by
    conv => lhs; rw [← List.drop_zero (l := L), List.drop_eq_getElem_cons h0]
    rfl)
  have hA1 := (Below.refl w.heap.size w).alloc (Nat.le_refl _) (.cells #[.int .u32 0, .int .i64 0] 47)
  have z0 := (hA1.cell (p := ⟨g, o + 0 * 2, none⟩) hg).trans x0
  have z1 := (hA1.cell (p := ⟨g, o + 0 * 2 + 1, none⟩) hg).trans x1
  simp only [Nat.zero_mul, Nat.add_zero] at z0 z1
  have HX := Lib.hid hx
  have h0i : ¬ (L.length : Int) < 1 := by omega
  have h0j : 0 < (L.length : Int) := by omega
  clear hx x0 x1 hcells hA1
  go_enter Tryz.func107, Tryz.ntmps107
  go_wp2
  have hb0 : Below w.heap.size w ((w.alloc (.cells #[.int .u32 0, .int .i64 0] 47)).alloc (.cells #[.int .u32 (L[0].1 : Int), .int .i64 L[0].2] 47)) := ((Below.refl _ w).alloc (Nat.le_refl _) _).alloc (by simp) _
  have hr0 : Box2 w.heap.size (.int .u32 0) (.int .i64 0) ((w.alloc (.cells #[.int .u32 0, .int .i64 0] 47)).alloc (.cells #[.int .u32 (L[0].1 : Int), .int .i64 L[0].2] 47)) := (Box2.mk' w _ _ _).alloc _
  have hm0 : Box2 (w.heap.size + 1) (.int .u32 (L[0].1 : Int)) (.int .i64 L[0].2) ((w.alloc (.cells #[.int .u32 0, .int .i64 0] 47)).alloc (.cells #[.int .u32 (L[0].1 : Int), .int .i64 L[0].2] 47)) := by
    have := Box2.mk' (w.alloc (.cells #[.int .u32 0, .int .i64 0] 47)) (.int .u32 (L[0].1 : Int)) (.int .i64 L[0].2) 47
    simpa using this
  generalize (w.alloc (.cells #[.int .u32 0, .int .i64 0] 47)).alloc (.cells #[.int .u32 (L[0].1 : Int), .int .i64 L[0].2] 47) = w0 at *
  have HB0 := Lib.hid hb0
  have HR0 := Lib.hid hr0
  have hlt0 := hm0.lt
  clear hb0 hr0 z0 z1
  go_loopg [6] (L.length - 1) (fun gh vi wr => ∃ (k : Nat) (m : Idn), vi = .int .i64 k ∧ 1 ≤ k ∧ k ≤ L.length ∧ gh = L.length - k ∧ Hid (repOf L = repFrom m (L.drop k)) ∧ w0.grownBy wr (some (w.heap.size + 1)) ∧ Box2 (w.heap.size + 1) (.int .u32 (m.1 : Int)) (.int .i64 m.2) wr)
  case atStart => exact ⟨1, L[0], rfl, by omega, h0, rfl, HREP, ⟨rfl, rfl, rfl, Nat.le_refl _, fun _ _ _ => rfl⟩, hm0⟩
  case round =>
    obtain ⟨k, m, rfl, hk1, hk, hgm, hI, hg9, hbm⟩ := hrel
    by_cases hkl : k < L.length
    · obtain ⟨x0, x1⟩ := HX.out k hkl
      have hgne : some g ≠ some (w.heap.size + 1) := fun e => by have := Option.some.inj e; omega
      have hg0 : g < w0.heap.size := by omega
      have hgr : g < wr.heap.size := by have := hg9.size; omega
      have y0 := (hg9.cell_far ⟨g, o + k * 2, none⟩ hg0 hgne).trans ((HB0.out.cell (p := ⟨g, o + k * 2, none⟩) hg).trans x0)
      have y1 := (hg9.cell_far ⟨g, o + k * 2 + 1, none⟩ hg0 hgne).trans ((HB0.out.cell (p := ⟨g, o + k * 2 + 1, none⟩) hg).trans x1)
      have b1 : (0 : Int) ≤ (k : Int) := by omega
      have b2 : (k : Int) < (L.length : Int) := by omega
      have Y0 := Lib.hid y0
      have Y1 := Lib.hid y1
      have HBM := Lib.hid hbm
      have HG := Lib.hid hg9
      clear x0 x1 y0 y1 hbm hg9
      go_wp2
      have hS0 : Below wr.heap.size wr wr.drew := (Below.refl _ _).drew
      refine region_S (fun w' => Below wr.heap.size wr w') 7 (by kernel_rfl) (by kernel_rfl) ?_
      refine take_S 0 rfl (by kernel_rfl) (by kernel_rfl) hS0 (fun w' hS => by go_simp; rfl) ?_
      refine take_S 1 rfl (by kernel_rfl) (by kernel_rfl) hS0 (fun w' hS => by go_simp; rfl) ?_
      refine take_S 2 rfl (by kernel_rfl) (by kernel_rfl) hS0 (fun w' hS => by go_simp; rfl) ?_
      refine take_S 3 rfl (by kernel_rfl) (by kernel_rfl) hS0 (fun w' hS => by go_simp; rfl) ?_
      refine take_S 4 rfl (by kernel_rfl) (by kernel_rfl) hS0 (fun w' hS => by have B0 := (hS.cell (p := ⟨g, o + k * 2, none⟩) hgr).trans Y0.out; have B1 := (hS.cell (p := ⟨g, o + k * 2 + 1, none⟩) hgr).trans Y1.out; go_simp; rfl) ?_
      refine take_S 5 rfl (by kernel_rfl) (by kernel_rfl) hS0 (fun w' hS => by have B0 := (HBM.out.below hS HBM.out.lt).c0; have B1 := (HBM.out.below hS HBM.out.lt).c1; go_simp; rfl) ?_
      refine carry_S 6 rfl (by kernel_rfl) (by decide) (by kernel_rfl) (fun K hK => ?_)
      go_simp
      refine (PCompare_any L[k].1 m.1 L[k].2 m.2 _).mono ?_
      rintro e w4 ⟨rfl, hb4⟩
      have hS4 : Below wr.heap.size wr w4 := hS0.trans hb4
      refine hK _ _ hS4 (forced_S (by kernel_rfl) ?_)
      clear hK K
      try simp only [Act.put, List.getElem_toArray, List.getElem_cons_succ, List.getElem_cons_zero, List.setIfInBounds_toArray, List.set_cons_zero, List.set_cons_succ]
      simp only [List.drop_succ_cons, List.drop_zero]
      have HB4 := Lib.hid (gb_below HG.out hS4)
      have hbm4 := HBM.out.below hS4 HBM.out.lt
      have HBM4 := Lib.hid hbm4
      have y0 := (hS4.cell (p := ⟨g, o + k * 2, none⟩) hgr).trans Y0.out
      have y1 := (hS4.cell (p := ⟨g, o + k * 2 + 1, none⟩) hgr).trans Y1.out
      obtain ⟨m0, m1, f0, f1⟩ := hbm4
      cases hc : lesser L[k] m with
      | true =>
        have hci := cmp_yes hc
        have HN := Lib.hid (hI.out.trans (rep_next_yes hkl hc))
        clear hc hI
        go_wp2
        go_roundg (L.length - (k + 1))
        case measure => omega
        case rel => exact ⟨k + 1, L[k], by go_num, by omega, hkl, rfl, HN, gb_set (gb_set HB4.out _ _) _ _, HBM4.out.set _ _⟩
      | false =>
        have hci := cmp_no hc
        have HN := Lib.hid (hI.out.trans (rep_next_no hkl hc))
        clear hc hI
        go_wp2
        go_roundg (L.length - (k + 1))
        case measure => omega
        case rel => exact ⟨k + 1, m, by go_num, by omega, hkl, rfl, HN, HB4.out, HBM4.out⟩
    · obtain rfl : k = L.length := by omega
      have hI2 : repOf L = m := by rw [hI.out, List.drop_eq_nil_of_le (Nat.le_refl _)]; rfl
      have HI := Lib.hid hI2
      have hrr := gb_box2 hg9 (by omega) HR0.out
      have HRR := Lib.hid hrr
      obtain ⟨r0, r1, f0, f1⟩ := hrr
      obtain ⟨m0, m1, _, _⟩ := hbm
      obtain ⟨t0, t1, t2⟩ := HRR.out.rd (.int .u32 (m.1 : Int)) (.int .i64 m.2)
      have HB9 := Lib.hid (below_set2 (gb_toBelow HB0.out (by omega) (by omega) hg9) (Nat.le_refl _) (.int .u32 (m.1 : Int)) (.int .i64 m.2))
      clear hI hI2 hg9
      go_wp2
      refine bodyPost_ret (v := idV m) (by simp [results, Tryz.results107, go_sem, t0, t1]) rfl ?_
      exact ⟨by rw [HI.out], HB9.out⟩
set_option maxRecDepth 100000 in
set_option maxHeartbeats 2000000 in
theorem RcRep_any (v : Value) (r : Rcp) (hc : r.ids.length ≤ 1000000) (w : World) (hv : RcpV w w.heap.size v r) :
    Calls Tryz.prog 55 #[v] w fun e w' => e = .returned (idV (repOf r.ids)) ∧ Below w.heap.size w w' := by
  obtain ⟨sl, rfl, hrd⟩ := hv
  have hb0 : Below w.heap.size w ((w.alloc (.cells #[VT r.name, .int .i64 r.len, .int .u32 (r.print : Int), sl] 65)).alloc (.cells #[.int .u32 0, .int .i64 0] 47)) := ((Below.refl _ w).alloc (Nat.le_refl _) _).alloc (by simp) _
  have hbx : Box4 w.heap.size (VT r.name) (.int .i64 r.len) (.int .u32 (r.print : Int)) sl ((w.alloc (.cells #[VT r.name, .int .i64 r.len, .int .u32 (r.print : Int), sl] 65)).alloc (.cells #[.int .u32 0, .int .i64 0] 47)) := (Box4.mk' w _ _ _ _ _).below ((Below.refl (w.alloc _).heap.size (w.alloc _)).alloc (Nat.le_refl _) _) (by simp)
  have hbr : Box2 (w.heap.size + 1) (.int .u32 0) (.int .i64 0) ((w.alloc (.cells #[VT r.name, .int .i64 r.len, .int .u32 (r.print : Int), sl] 65)).alloc (.cells #[.int .u32 0, .int .i64 0] 47)) := by
    have := Box2.mk' (w.alloc (.cells #[VT r.name, .int .i64 r.len, .int .u32 (r.print : Int), sl] 65)) (.int .u32 0) (.int .i64 0) 47
    simpa using this
  have hrd0 := (hrd.keep hb0 (Nat.le_refl _)).more hb0.size
  obtain ⟨A, c, rfl, hcap, _⟩ := hrd.form
  obtain ⟨c0, c1, c2, c3, _⟩ := hbx
  have HB0 := Lib.hid hb0
  have HBR := Lib.hid hbr
  have HRD := Lib.hid hrd0
  have ID0 : ∀ w, Calls Tryz.prog 24 #[.string ⟨#[]⟩] w fun e w' => e = .returned (idV (idOf [])) ∧ Below w.heap.size w w' := fun w => ID_any ⟨#[]⟩ w (by decide)
  have HID := Lib.hid ID0
  clear hb0 hbr hrd hrd0 ID0
  by_cases hz : r.ids = []
  · have HR : Hid (repOf r.ids = idOf []) := Lib.hid (by rw [hz]; rfl)
    have hl : r.ids.length = 0 := by rw [hz]; rfl
    have hli : ((r.ids.length : Int) == 0) = true := by rw [hl]; rfl
    clear hz hl
    go_enter Tryz.func55, Tryz.ntmps55
    go_wp2_with fail
    refine (HID.out _).mono ?_
    rintro e w1 ⟨rfl, hb1⟩
    have hbr1 := HBR.out.below hb1 HBR.out.lt
    have HBR1 := Lib.hid hbr1
    obtain ⟨r0, r1, f0, f1⟩ := hbr1
    obtain ⟨t0, t1, t2⟩ := HBR1.out.rd (.int .u32 ((idOf []).1 : Int)) (.int .i64 (idOf []).2)
    have HB9 := Lib.hid (below_set2 (HB0.out.trans (hb1.mono HB0.out.size)) (Nat.le_succ _) (.int .u32 ((idOf []).1 : Int)) (.int .i64 (idOf []).2))
    clear hb1
    go_wp2
    refine bodyPost_ret (v := idV (idOf [])) (by simp [results, Tryz.results55, go_sem, t0, t1]) rfl ?_
    exact ⟨by rw [HR.out], HB9.out⟩
  · have hl : 0 < r.ids.length := List.length_pos_iff.2 hz
    have hli : ((r.ids.length : Int) == 0) = false := by rw [beq_eq_false_iff_ne]; omega
    have HM := Lib.hid (MinIDs_any _ r.ids hc hl _ HRD.out)
    clear hz
    go_enter Tryz.func55, Tryz.ntmps55
    go_wp2_with fail
    refine HM.out.mono ?_
    rintro e w1 ⟨rfl, hb1⟩
    have hbr1 := HBR.out.below hb1 HBR.out.lt
    have HBR1 := Lib.hid hbr1
    obtain ⟨r0, r1, f0, f1⟩ := hbr1
    obtain ⟨t0, t1, t2⟩ := HBR1.out.rd (.int .u32 ((repOf r.ids).1 : Int)) (.int .i64 (repOf r.ids).2)
    have HB9 := Lib.hid (below_set2 (HB0.out.trans (hb1.mono HB0.out.size)) (Nat.le_succ _) (.int .u32 ((repOf r.ids).1 : Int)) (.int .i64 (repOf r.ids).2))
    clear hb1
    go_wp2
    refine bodyPost_ret (v := idV (repOf r.ids)) (by simp [results, Tryz.results55, go_sem, t0, t1]) rfl ?_
    exact ⟨rfl, HB9.out⟩
end Go.Proofs.YtpanoplcamdnkaaGreatDoor
/- Walk of recipe.Bare. No conditions. -/
namespace Go.Proofs.YtpanoplcamdnkaaGreatDoor
open Go.RowKit Go.Lib

theorem Tr.noFaultN (xT : TypeId) (w : World) : (Instr.typeAssert .nilIface xT 134 true).run Tryz.prog w = .ok (.tuple #[.pointer none, .bool false]) w := by kernel_rfl
theorem Tr.noFaultE (v : Value) (xT : TypeId) (w : World) : (Instr.typeAssert (.iface 361 v) xT 134 true).run Tryz.prog w = .ok (.tuple #[.pointer none, .bool false]) w := by kernel_rfl
theorem Tr.isFault (v : Value) (xT : TypeId) (w : World) : (Instr.typeAssert (.iface 134 v) xT 134 true).run Tryz.prog w = .ok (.tuple #[v, .bool true]) w := by kernel_rfl
set_option maxRecDepth 100000 in
theorem RcBare_any (a : Nat → Addr) (v : Value) (c t : Int) (w : World) (he : EV a v c t w) :
    Calls Tryz.prog 60 #[v] w fun e w' => ∃ x, e = .returned x ∧ ES a x c ∧ Below w.heap.size w w' := by
  have t1 := Tr.noFaultN
  have t2 := Tr.noFaultE
  have t3 := Tr.isFault
  rcases he with ⟨rfl, rfl, rfl⟩ | ⟨k, hk, rfl, rfl, rfl⟩ | ⟨k, b, o, hk, rfl, rfl, h0, h1⟩
  · go_enter Tryz.func60, Tryz.ntmps60
    go_wp2
    go_ret
    exact ⟨_, rfl, ES.none a, Below.refl _ _⟩
  · unfold sval
    go_enter Tryz.func60, Tryz.ntmps60
    go_wp2
    go_ret
    exact ⟨_, rfl, ES.sent a k hk, Below.refl _ _⟩
  · unfold sval at h1
    go_enter Tryz.func60, Tryz.ntmps60
    go_wp2
    go_ret
    exact ⟨_, rfl, ES.sent a k hk, Below.refl _ _⟩
theorem SomeS.sub {ks js : List Nat} {a : Nat → Addr} {w : World} (h : SomeS ks a w) (hs : ∀ k ∈ js, k ∈ ks) : SomeS js a w := fun k hk => h k (hs k hk)
end Go.Proofs.YtpanoplcamdnkaaGreatDoor

/- Walk of the law CutWhole. No conditions. -/
import Derived.Test.YtanondjaooocgaaCutX
namespace Go.Proofs.Ytanondjaooocgaa
open Go.RowKit Go.Lib

theorem bs_append (a b : Bytes) : bs a ++ bs b = bs (a ++ b) := by
  apply ba_ext; rw [bs_toList]; simp [bs]
theorem bs_nonempty {a : Bytes} (h : a ≠ []) : (bs a).toList.isEmpty = false := by
  rw [ByteArray.toList_eq, bs_toList]; simpa using h

theorem flat_succ (P : List Bytes) (k : Nat) (h : k < P.length) : (P.take (k + 1)).flatten = (P.take k).flatten ++ P[k] := by
  rw [List.take_succ_eq_append_getElem h, List.flatten_append]; simp

set_option maxRecDepth 100000 in
set_option maxHeartbeats 4000000 in
theorem CutWhole_some (s : ByteArray) (at_ : Int) (hs : s.size ≤ 1500) (hs0 : 0 < s.size) (w : World) : Calls Try.prog 3 #[.string s, .int .i64 at_] w fun e w' => e = .returned (.bool true) ∧ Below w.heap.size w w' := by
  have hs40 : s.size ≤ 2 ^ 40 := by omega
  have hlen := pieces_length_le s.data.toList
  have hfl := pieces_flatten s.data.toList
  have hmx := pieces_max s.data.toList
  have hcl := cuts_length s.data.toList
  have hne := pieces_ne s.data.toList
  rw [← size_toList] at hlen
  have hP0 : 0 < (pieces s.data.toList).length := by
    rcases Nat.eq_zero_or_pos (pieces s.data.toList).length with h | h
    · rw [List.eq_nil_of_length_eq_zero h] at hfl
      rw [size_toList, ← hfl] at hs0; simp at hs0
    · exact h
  generalize hP : pieces s.data.toList = P at *
  generalize hC : cuts s.data.toList = C at *
  have HP := Lib.hid hP
  have HC := Lib.hid hC
  have HF := Lib.hid hfl
  have HM := Lib.hid hmx
  have HN := Lib.hid hne
  have HL := Lib.hid hcl
  have q1 : ((C.length : Int) != (P.length : Int)) = false := by rw [hcl]; simp
  have q2 : ((C.length : Int) == 0) = false := by rw [beq_eq_false_iff_ne]; omega
  have q3 : s.toList.isEmpty = false := by
    rw [ByteArray.toList_eq]; rw [size_toList] at hs0
    cases h : s.data.toList with
    | nil => rw [h] at hs0; simp at hs0
    | cons a b => rfl
  clear hP hC hfl hmx hne hcl
  go_enter Try.func3, Try.ntmps3
  go_wp2_with (go_at_call 5; refine (cutted_any _).mono ?_; rintro e W1 ⟨rfl, hb1⟩)
  refine (Cuts_any s hs40 _).mono ?_
  rintro e W2 ⟨v2, rfl, hr2, hb2⟩
  go_wp2_with fail
  refine (Pieces_any s hs40 _).mono ?_
  rintro e W3 ⟨v3, rfl, hr3, hb3⟩
  rw [HC.out] at hr2
  rw [HP.out] at hr3
  obtain ⟨A2, c2, rfl, hnc2, hd2⟩ := ((Rd.own hr2).below hb3).more hb3.size
  have hR3 := Rd.own hr3
  obtain ⟨A3, c3, rfl, hnc3, hd3⟩ := hR3
  have hR3 := Rd.own hr3
  rw [List.length_map] at hnc2 hnc3 hR3
  rw [List.length_map, List.length_map]
  go_wp2
  obtain ⟨g2, o2, rfl, hg2, hl2⟩ := hd2 (map_ne (k := 0) (by have := HL.out; omega))
  obtain ⟨g3, o3, rfl, hg3, hl3⟩ := hd3 (map_ne hP0)
  go_loop [8, 9] (fun va vi => ∃ k : Nat, va = .string (bs (P.take k).flatten) ∧ vi = .int .i64 k ∧ k ≤ P.length) (fun _ vi => P.length - (intOf vi).toNat)
  case atStart => exact ⟨0, by rfl, rfl, Nat.zero_le _⟩
  case round =>
    obtain ⟨k, rfl, rfl, hk⟩ := hrel
    by_cases hlt : k < P.length
    · have hltC : k < C.length := by rw [HL.out]; exact hlt
      have c2 : W3.cell? ⟨g2, o2 + k, none⟩ = some (.int .i64 (offs P (k + 1))) := by
        refine hl2 k _ ?_
        have hck := cuts_get s.data.toList k (by rw [HP.out]; exact hlt)
        rw [HC.out, HP.out] at hck
        rw [List.getElem?_map, hck]; rfl
      have c3 : W3.cell? ⟨g3, o3 + k, none⟩ = some (.string (bs P[k])) := hl3 k _ (by simp [hlt])
      have e1 : (bs (P.take k).flatten).size = offs P k := bs_size _
      have e2 : (bs P[k]).size = P[k].length := bs_size _
      have e3 := offs_succ P k hlt
      have m1 := HM.out P[k] (List.getElem_mem hlt)
      have m2 := bs_nonempty (HN.out P[k] (List.getElem_mem hlt))
      have m3 := offs_le P k
      rw [HF.out, ← size_toList] at m3
      have H2 := Lib.hid hl2
      have H3 := Lib.hid hl3
      clear hl2 hl3
      by_cases hlast : k + 1 < P.length
      · have m4 : 16 ≤ P[k].length := by
          have := pcs_min [] s.data.toList k (by rw [show pcs [] s.data.toList = P from HP.out]; exact hlast)
          obtain ⟨p, h1, h2⟩ := this
          rw [show pcs [] s.data.toList = P from HP.out, List.getElem?_eq_getElem hlt] at h1
          injection h1 with h1
          rw [h1]; exact endsB_len h2
        go_wp2
        go_round
        case rel => exact ⟨k + 1, by rw [bs_append, flat_succ P k hlt], by go_num, hlt⟩
        case measure => simp [intOf]; omega
      · have e4 : k + 1 = P.length := by omega
        have E4 := Lib.hid e4
        have e5 : (P.length : Int) - 1 ≤ (k : Int) := by omega
        clear e4
        by_cases hsm : P[k].length < 16
        · go_wp2
          go_round
          case rel => exact ⟨k + 1, by rw [bs_append, flat_succ P k hlt], by go_num, hlt⟩
          case measure => simp [intOf]; omega
        · go_wp2
          go_round
          case rel => exact ⟨k + 1, by rw [bs_append, flat_succ P k hlt], by go_num, hlt⟩
          case measure => simp [intOf]; omega
    · obtain rfl : k = P.length := by omega
      have hall : bs (P.take P.length).flatten = s := by rw [List.take_of_length_le (Nat.le_refl _), HF.out, bs_of]
      rw [hall]
      clear hall
      by_cases hat : 0 ≤ at_ ∧ at_ < C.length
      · obtain ⟨j, rfl⟩ := Int.eq_ofNat_of_zero_le hat.1
        have hj : j < C.length := by omega
        clear hat
        have c2 : W3.cell? ⟨g2, o2 + j, none⟩ = some (.int .i64 (offs P (j + 1))) := by
          refine hl2 j _ ?_
          have hck := cuts_get s.data.toList j (by rw [HP.out, ← HL.out]; exact hj)
          rw [HC.out, HP.out] at hck
          rw [List.getElem?_map, hck]; rfl
        have hof := offs_le P (j + 1)
        rw [HF.out, ← size_toList] at hof
        have i1 : (0 : Int) ≤ (j : Int) := by omega
        have i2 : (j : Int) < (C.length : Int) := by omega
        have i3 : (0 : Int) ≤ (offs P (j + 1) : Int) := by omega
        have i4 : (offs P (j + 1) : Int) ≤ (s.size : Int) := by omega
        have i5 : IntKind.i64.wrap ((j : Int) + 1) = (j : Int) + 1 := IntWalk.i64_in _ (by have := HL.out; omega)
        have i6 : (0 : Int) ≤ (j : Int) + 1 := by omega
        have i7 : (j : Int) + 1 ≤ (P.length : Int) := by have := HL.out; omega
        have i8 : (j : Int) + 1 ≤ (c3 : Int) := by omega
        have hB0 : Below W3.heap.size W3 W3.drew := (Below.refl _ _).drew
        have H2 := Lib.hid hl2
        have H3 := Lib.hid hl3
        clear hl2 hl3
        go_wp2
        refine region_S (fun w' => Below W3.heap.size W3 w') 26 (by kernel_rfl) (by kernel_rfl) ?_
        refine take_S 0 rfl (by kernel_rfl) rfl hB0 (fun w' hS => by go_simp; rfl) ?_
        refine take_S 1 rfl (by kernel_rfl) rfl hB0 (fun w' hS => by go_simp; rfl) ?_
        refine take_S 2 rfl (by kernel_rfl) rfl hB0 (fun w' hS => by go_simp; rfl) ?_
        refine take_S 3 rfl (by kernel_rfl) rfl hB0 (fun w' hS => by go_simp; rfl) ?_
        refine take_S 4 rfl (by kernel_rfl) rfl hB0 (fun w' hS => by have hc := (hS.cell (p := ⟨g2, o2 + j, none⟩) hg2).trans c2; go_simp; rfl) ?_
        refine take_S 5 rfl (by kernel_rfl) rfl hB0 (fun w' hS => by go_simp; rfl) ?_
        refine take_S 7 rfl (by kernel_rfl) rfl hB0 (fun w' hS => by go_simp; rfl) ?_
        refine take_S 8 rfl (by kernel_rfl) rfl hB0 (fun w' hS => by go_simp; rfl) ?_
        refine take_S 9 rfl (by kernel_rfl) rfl hB0 (fun w' hS => by go_simp; rfl) ?_
        refine take_S 10 rfl (by kernel_rfl) rfl hB0 (fun w' hS => by go_simp; rfl) ?_
        have hR4 := hR3.cut (j + 1) (by have := HL.out; omega)
        generalize (if c3 = j + 1 then some (Addr.mk g3 o3 none) else some (Addr.mk g3 (o3 + (j + 1)) none)) = A4 at hR4 ⊢
        refine carry_S 6 rfl (by kernel_rfl) (by decide) rfl (fun K hK => ?_)
        go_simp
        have hx1 : (s.extract (offs P (j + 1)) s.size).data.toList = s.data.toList.drop (offs P (j + 1)) := by
          rw [extract_toList, List.take_of_length_le (by rw [← size_toList]; exact Nat.le_refl _)]
        have hsp := pieces_split s.data.toList j (by rw [HP.out, ← HL.out]; exact hj)
        rw [HP.out] at hsp
        have hx2 : pieces (s.extract (offs P (j + 1)) s.size).data.toList = P.drop (j + 1) := by rw [hx1]; exact hsp.1
        have hx3 : pieces (s.extract 0 (offs P (j + 1))).data.toList = P.take (j + 1) := by rw [extract_toList]; exact hsp.2
        refine (Pieces_any (s.extract (offs P (j + 1)) s.size) (by simp; omega) _).mono ?_
        rintro e W4 ⟨v4, rfl, hr4, hb4⟩
        rw [hx2] at hr4
        have hb4' : Below W3.heap.size W3 W4 := hB0.trans hb4
        refine hK _ _ hb4' ?_
        clear hK K
        try simp only [Act.put, List.setIfInBounds_toArray, List.set_cons_zero, List.set_cons_succ]
        refine carry_S 11 rfl (by kernel_rfl) (by decide) (by kernel_rfl) (fun K hK => ?_)
        go_simp
        refine (SameTexts_any _ _ _ _ _ _ (Rd.own hr4) (by rw [← List.map_drop] at hR4; exact (hR4.below hb4').more hb4'.size) (by rw [List.length_drop]; omega) (by rw [List.length_drop]; omega)).mono ?_
        rintro e W5 ⟨he, m, rfl⟩
        rw [he]
        rw [decide_eq_true rfl]
        have HBX : Below W3.heap.size W3 (W4.drewN m) := below_drewN hb4' m
        refine hK _ _ HBX ?_
        clear hK K
        try simp only [Act.put, List.setIfInBounds_toArray, List.set_cons_zero, List.set_cons_succ]
        refine take_S 12 rfl (by kernel_rfl) (by kernel_rfl) HBX (fun w' hS => by go_simp; rfl) ?_
        refine take_S 13 rfl (by kernel_rfl) (by kernel_rfl) HBX (fun w' hS => by go_simp; rfl) ?_
        refine take_S 14 rfl (by kernel_rfl) (by kernel_rfl) HBX (fun w' hS => by go_simp; rfl) ?_
        refine take_S 15 rfl (by kernel_rfl) (by kernel_rfl) HBX (fun w' hS => by go_simp; rfl) ?_
        refine take_S 16 rfl (by kernel_rfl) (by kernel_rfl) HBX (fun w' hS => by go_simp; rfl) ?_
        refine take_S 17 rfl (by kernel_rfl) (by kernel_rfl) HBX (fun w' hS => by have hc := (hS.cell (p := ⟨g2, o2 + j, none⟩) hg2).trans c2; go_simp; rfl) ?_
        refine take_S 18 rfl (by kernel_rfl) (by kernel_rfl) HBX (fun w' hS => by go_simp; rfl) ?_
        refine take_S 20 rfl (by kernel_rfl) (by kernel_rfl) HBX (fun w' hS => by go_simp; rfl) ?_
        refine take_S 21 rfl (by kernel_rfl) (by kernel_rfl) HBX (fun w' hS => by go_simp; rfl) ?_
        refine take_S 22 rfl (by kernel_rfl) (by kernel_rfl) HBX (fun w' hS => by go_simp; rfl) ?_
        refine take_S 23 rfl (by kernel_rfl) (by kernel_rfl) HBX (fun w' hS => by go_simp; rfl) ?_
        refine carry_S 19 rfl (by kernel_rfl) (by decide) (by kernel_rfl) (fun K hK => ?_)
        go_simp
        refine (Pieces_any (s.extract 0 (offs P (j + 1))) (by simp; omega) _).mono ?_
        rintro e W6 ⟨v6, rfl, hr6, hb6⟩
        rw [hx3] at hr6
        have hb6' : Below W3.heap.size W3 W6 := HBX.trans (hb6.mono HBX.size)
        refine hK _ _ hb6' ?_
        clear hK K
        try simp only [Act.put, List.setIfInBounds_toArray, List.set_cons_zero, List.set_cons_succ]
        refine carry_S 24 rfl (by kernel_rfl) (by decide) (by kernel_rfl) (fun K hK => ?_)
        go_simp
        have hR5 := hR3.take (j + 1) (by have := HL.out; omega)
        rw [← List.map_take] at hR5
        refine (SameTexts_any _ _ _ _ _ _ (Rd.own hr6) ((hR5.below hb6').more hb6'.size) (by rw [List.length_take]; omega) (by rw [List.length_take]; omega)).mono ?_
        rintro e W7 ⟨he, m', rfl⟩
        rw [he]
        rw [decide_eq_true rfl]
        have HBY : Below W3.heap.size W3 (W6.drewN m') := below_drewN hb6' m'
        refine hK _ _ HBY ?_
        clear hK K
        try simp only [Act.put, List.setIfInBounds_toArray, List.set_cons_zero, List.set_cons_succ]
        refine take_S 25 rfl (by kernel_rfl) (by kernel_rfl) HBY (fun w' hS => by go_simp; rfl) ?_
        refine forced_S (by kernel_rfl) ?_
        simp only [List.drop_succ_cons, List.drop_zero]
        go_wp2
        go_ret
        exact ⟨rfl, hb1.trans ((hb2.mono hb1.size).trans ((hb3.mono (Nat.le_trans hb1.size hb2.size)).trans (HBY.mono (Nat.le_trans hb1.size (Nat.le_trans hb2.size hb3.size)))))⟩
      · have hbl : Below w.heap.size w W3 := hb1.trans ((hb2.mono hb1.size).trans (hb3.mono (Nat.le_trans hb1.size hb2.size)))
        by_cases hneg : at_ < 0
        · clear hat hl2 hl3
          go_wp2
          go_ret
          exact ⟨rfl, hbl⟩
        · have hge : (C.length : Int) ≤ at_ := by omega
          clear hat hl2 hl3
          go_wp2
          go_ret
          exact ⟨rfl, hbl⟩

end Go.Proofs.Ytanondjaooocgaa

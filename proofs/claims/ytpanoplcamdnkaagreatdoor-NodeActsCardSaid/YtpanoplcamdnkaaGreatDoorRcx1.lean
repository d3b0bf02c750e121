/- OfR, RcB in one text. Conditions: as each part says. -/
import Derived.Test.YtpanoplcamdnkaaGreatDoorIds1
import Derived.Test.YtpanoplcamdnkaaGreatDoorName
import Derived.Test.YtpanoplcamdnkaaGreatDoorPrt2
import Derived.Test.YtpanoplcamdnkaaGreatDoorCut1
import Derived.OwnWalk
/- Plain words of a recipe of a text: what is told of it. No conditions. -/
namespace Go.Proofs.YtpanoplcamdnkaaGreatDoor
open Go.RowKit Go.Lib

theorem idsTake {ps : List Bytes} {k : Nat} (hk : k < ps.length) : idRow ((ps.take (k + 1)).map idOf) = idRow ((ps.take k).map idOf) ++ [.int .u32 ((prOf ps[k] : Nat) : Int), .int .i64 (ps[k].length : Int)] := by
  rw [List.take_succ_eq_append_getElem hk, List.map_append, idRow_append]; rfl
def ofRes (n s : Bytes) : Int × Rcp := if isName n = false then (4, rcpZero) else if 4000 < s.length then (2, rcpZero) else (0, rcpOf n s)
end Go.Proofs.YtpanoplcamdnkaaGreatDoor
/- Walk of recipe.Of. Condition: the sentinels that are read lie as named (SomeS). -/
namespace Go.Proofs.YtpanoplcamdnkaaGreatDoor
open Go.RowKit Go.Lib

set_option maxRecDepth 100000 in
set_option maxHeartbeats 1000000 in
theorem RcOf_ok (n s : ByteArray) (hn : n.size ≤ maxLen) (hN : isName n.data.toList = true) (hs : s.size ≤ 4000) (w : World) :
    Calls Tryz.prog 54 #[.string n, .string s] w fun e w' => ∃ v, e = .returned (.tuple #[v, .nilIface]) ∧ RcpW w' w.heap.size w'.heap.size v (rcpOf n.data.toList s.data.toList) ∧ Below w.heap.size w w' := by
  obtain ⟨i0, hi, hz0, hz1, hz2⟩ := info_parts info_idI
  have b1 : ¬ (s.size : Int) > 4000 := by omega
  have HL : Hid ((pieces s.data.toList).length ≤ 4000) := Lib.hid (by have := pieces_length_le s.data.toList; have := size_toList s; omega)
  have HS := Lib.hid (size_toList s)
  have HNN := Lib.hid hN
  clear hN
  go_enter Tryz.func54, Tryz.ntmps54
  go_wp2_with fail
  refine (RcName_any n hn _).mono ?_
  rintro e w1 ⟨rfl, hb1⟩
  rw [HNN.out]
  go_wp2_with fail
  refine (POf_any s _ (by unfold maxLen; omega)).mono ?_
  rintro e w2 ⟨rfl, rfl⟩
  go_wp2_with fail
  refine (Pieces_any s (by omega) _).mono ?_
  rintro e w3 ⟨v1, rfl, ho1, hb3⟩
  have hwr : Box4 w.heap.size (.string ⟨#[]⟩) (.int .i64 0) (.int .u32 0) (.slice none 0 0) (w.alloc (.cells #[.string ⟨#[]⟩, .int .i64 0, .int .u32 0, .slice none 0 0] 65)) := Box4.mk' _ _ _ _ _ _
  have hres1 := hwr.below hb1 (by simp)
  have hbx2 : Box4 w1.heap.size (.string n) (.int .i64 (s.size : Int)) (.int .u32 ((prOf s.data.toList : Nat) : Int)) (.slice none 0 0) (w1.alloc (.cells #[.string n, .int .i64 (s.size : Int), .int .u32 ((prOf s.data.toList : Nat) : Int), .slice none 0 0] 65)) := Box4.mk' _ _ _ _ _ _
  have hb13 : Below w1.heap.size w1 w3 := ((Below.refl w1.heap.size w1).alloc (Nat.le_refl _) _).trans (hb3.mono (by simp))
  have hrx3 := hbx2.below hb3 (by simp)
  have hres3 := hres1.below hb13 hres1.lt
  have hb03 : Below w.heap.size w w3 := (((Below.refl _ w).alloc (Nat.le_refl _) _).trans (hb1.mono (by simp))).trans (hb13.mono (Nat.le_of_lt hres1.lt))
  have hlt1 : w.heap.size < w1.heap.size := hres1.lt
  have hne : w.heap.size ≠ w1.heap.size := Nat.ne_of_lt hlt1
  have hlt3 := hrx3.lt
  obtain ⟨A1, c1, rfl, hc1, hrd⟩ := own_rdI ho1
  have HRD := Lib.hid hrd
  have HBB := Lib.hid hb03
  have HRES := Lib.hid hres3
  generalize hps : pieces s.data.toList = ps at *
  have hl := HL.out
  clear hrd hwr hres1 hbx2 hb13 ho1 hb3 hb1 hb03 hres3
  go_wp2
  go_loopg [30] ps.length (fun gh vi wr => ∃ (k : Nat) (vs : Value), vi = .int .i64 k ∧ k ≤ ps.length ∧ gh = ps.length - k ∧ wr.ownsRow w3.heap.size 47 2 vs k (idRow ((ps.take k).map idOf)) ∧ w3.grownBy wr (some w1.heap.size) ∧ Box4 w1.heap.size (.string n) (.int .i64 (s.size : Int)) (.int .u32 ((prOf s.data.toList : Nat) : Int)) vs wr)
  case atStart => exact ⟨0, _, rfl, Nat.zero_le _, rfl, World.ownsRow_nil _ _ _ _, ⟨rfl, rfl, rfl, Nat.le_refl _, fun _ _ _ => rfl⟩, hrx3⟩
  case round =>
    obtain ⟨k, vs, rfl, hk, hgm, hrow, hg, hbx⟩ := hrel
    obtain ⟨A, c, rfl⟩ := own_formI hrow
    by_cases hkl : k < ps.length
    · obtain ⟨g, rfl, hg1, hg2, hcell⟩ := HRD.out (by omega)
      have hgne : some g ≠ some w1.heap.size := by intro e; injection e with e; simp at hg1; omega
      have hd1 : w3.cell? ⟨g, k, none⟩ = some (.string (bs ps[k])) := hcell k _ (by simp [hkl])
      have d1 : wr.cell? ⟨g, k, none⟩ = some (.string (bs ps[k])) := (hg.cell_far ⟨g, k, none⟩ hg2 hgne).trans hd1
      have b1 : (0 : Int) ≤ (k : Int) := by omega
      have b2 : (k : Int) < (ps.length : Int) := by omega
      have HT := Lib.hid (idsTake hkl)
      have hpz : (bs ps[k]).size ≤ 4000 := by
        rw [bs_size]
        have hm : ps[k] ∈ pieces s.data.toList := by rw [hps]; exact List.getElem_mem hkl
        have := pieces_max _ _ hm
        omega
      have HBT := Lib.hid (bs_toList ps[k])
      have HBZ := Lib.hid (bs_size ps[k])
      have HBX := Lib.hid hbx
      have HROW := Lib.hid hrow
      have HG := Lib.hid hg
      clear hd1 hcell hbx hrow hg
      go_wp2
      have hS0 : Below wr.heap.size wr wr.drew := (Below.refl _ _).drew
      refine region_S (fun w' => Below wr.heap.size wr w') 5 (by kernel_rfl) (by kernel_rfl) ?_
      refine take_S 0 rfl (by kernel_rfl) (by kernel_rfl) hS0 (fun w' hS => by go_simp; rfl) ?_
      refine take_S 1 rfl (by kernel_rfl) (by kernel_rfl) hS0 (fun w' hS => by have A3 := (HBX.out.below hS HBX.out.lt).c3; go_simp; rfl) ?_
      refine take_S 2 rfl (by kernel_rfl) (by kernel_rfl) hS0 (fun w' hS => by go_simp; rfl) ?_
      refine carry_S 3 rfl (by kernel_rfl) (by decide) (by kernel_rfl) (fun K hK => ?_)
      go_simp
      refine (ID_any (bs ps[k]) _ (by unfold maxLen; omega)).mono ?_
      rintro e w4 ⟨rfl, hb4⟩
      have hS4 : Below wr.heap.size wr w4 := hS0.trans hb4
      rw [HBT.out, HBZ.out]
      refine hK _ _ hS4 ?_
      clear hK K
      try simp only [Act.put, List.getElem_toArray, List.getElem_cons_succ, List.getElem_cons_zero, List.setIfInBounds_toArray, List.set_cons_zero, List.set_cons_succ]
      refine carry_S 4 rfl (by kernel_rfl) (by decide) (by kernel_rfl) (fun K hK => ?_)
      go_simp
      have hS5 := hS4.alloc hS4.size (.cells #[.int .u32 ((prOf ps[k] : Nat) : Int), .int .i64 (ps[k].length : Int)] 47)
      refine hK _ _ hS5 (forced_S (by kernel_rfl) ?_)
      clear hK K
      try simp only [Act.put, List.getElem_toArray, List.getElem_cons_succ, List.getElem_cons_zero, List.setIfInBounds_toArray, List.set_cons_zero, List.set_cons_succ]
      simp only [List.drop_succ_cons, List.drop_zero]
      have hS5' := HBX.out.below hS5 HBX.out.lt
      have ho5 := own_belowI HROW.out hS5
      have HBX5 := Lib.hid hS5'
      have hG5 := gb_below HG.out hS5
      generalize hw5 : w4.alloc (.cells #[.int .u32 ((prOf ps[k] : Nat) : Int), .int .i64 (ps[k].length : Int)] 47) = w5 at *
      go_wp2_with (at_builtin; refine wpList_append_own _ rfl _ _ 44 rfl w3.heap.size 47 i0 (.agg #[.int .u32 0, .int .i64 0]) 2 16 Tryz.underlying44 hi hz0 hz1 hz2 rfl (by decide) _ _ _ rfl ho5 ⟨w4.heap.size, 0, none⟩ 1 1 [.int .u32 ((prOf ps[k] : Nat) : Int), .int .i64 (ps[k].length : Int)] rfl rfl (by rw [← hw5]; exact cell_newI w4 _ _ _) (by simp [Value.oneCell']) (by unfold maxLen; omega) (by omega) (by have := hG5.size; omega) ?_; intro v6 w6 ho6 hg6 _; obtain ⟨A6, c6, rfl⟩ := own_formI ho6; have HBX6 := Lib.hid (gb_box4 hg6 (own_far ho5 hlt3) HBX5.out); have c36 := HBX6.out.c3; have f36 := HBX6.out.f 3)
      go_roundg (ps.length - (k + 1))
      case measure => omega
      case rel => exact ⟨k + 1, _, by go_num, hkl, rfl, own_setI (by rw [HT.out]; exact ho6) hlt3, gb_set (gb_row hG5 (Nat.le_refl _) ho5 hg6) _ _, HBX6.out.set3 _⟩
    · obtain rfl : k = ps.length := by omega
      have hres := gb_box4 hg (by intro e; injection e with e; exact hne e) HRES.out
      have HRESR := Lib.hid hres
      obtain ⟨r0, r1, r2, r3, rf⟩ := hres
      obtain ⟨c0, c1x, c2, c3, _⟩ := hbx
      have f0 := rf 0
      have f1 := rf 1
      have f2 := rf 2
      have f3 := rf 3
      obtain ⟨d0, d1, d2, d3, _⟩ := HRESR.out.set (.string n) (.int .i64 (s.size : Int)) (.int .u32 ((prOf s.data.toList : Nat) : Int)) (.slice A ps.length c)
      have hgb := gb_toBelow HBB.out (by omega) (by omega) hg
      have HP : Hid (RcpW ((((wr.setCell ⟨w.heap.size, 0, none⟩ (.string n)).setCell ⟨w.heap.size, 1, none⟩ (.int .i64 (s.size : Int))).setCell ⟨w.heap.size, 2, none⟩ (.int .u32 ((prOf s.data.toList : Nat) : Int))).setCell ⟨w.heap.size, 3, none⟩ (.slice A ps.length c)) w.heap.size ((((wr.setCell ⟨w.heap.size, 0, none⟩ (.string n)).setCell ⟨w.heap.size, 1, none⟩ (.int .i64 (s.size : Int))).setCell ⟨w.heap.size, 2, none⟩ (.int .u32 ((prOf s.data.toList : Nat) : Int))).setCell ⟨w.heap.size, 3, none⟩ (.slice A ps.length c)).heap.size
          (.agg #[.string n, .int .i64 (s.size : Int), .int .u32 ((prOf s.data.toList : Nat) : Int), .slice A ps.length c]) (rcpOf n.data.toList s.data.toList)) := Lib.hid (by
        rw [List.take_of_length_le (Nat.le_refl _)] at hrow
        have e1 : (rcpOf n.data.toList s.data.toList).ids = ps.map idOf := by show idsOf _ = _; unfold idsOf; rw [hps]
        refine ⟨_, ?_, by rw [e1]; exact (RdB.own (own_set4 hrow HRES.out.lt _ _ _ _) (by rw [List.length_map])).wide (by omega) (Nat.le_refl _)⟩
        rw [show VT (rcpOf n.data.toList s.data.toList).name = .string n by show Value.string (bs n.data.toList) = _; rw [bs_of]]
        rw [show (rcpOf n.data.toList s.data.toList).len = (s.size : Int) by rw [HS.out]; rfl]
        rfl)
      have HB9 := Lib.hid (below_set4 hgb (Nat.le_refl _) (.string n) (.int .i64 (s.size : Int)) (.int .u32 ((prOf s.data.toList : Nat) : Int)) (.slice A ps.length c))
      clear rf hrow hgb hg
      go_wp2
      refine bodyPost_ret (v := .tuple #[.agg #[.string n, .int .i64 (s.size : Int), .int .u32 ((prOf s.data.toList : Nat) : Int), .slice A ps.length c], .nilIface]) (by simp [results, Tryz.results54, go_sem, d0, d1, d2, d3]) rfl ?_
      exact ⟨_, rfl, HP.out, HB9.out⟩
set_option maxRecDepth 100000 in
set_option maxHeartbeats 1000000 in
theorem RcOf_es (a : Nat → Addr) (n s : ByteArray) (hn : n.size ≤ maxLen) (w : World) (hs : SomeS [1, 3] a w) :
    Calls Tryz.prog 54 #[.string n, .string s] w fun e w' => ∃ v r, e = .returned (.tuple #[v, r]) ∧ ES a r (ofRes n.data.toList s.data.toList).1 ∧ RcpW w' w.heap.size w'.heap.size v (ofRes n.data.toList s.data.toList).2 ∧ Below w.heap.size w w' := by
  have hz := size_toList s
  have hb0 : Below w.heap.size w (w.alloc (.cells #[.string ⟨#[]⟩, .int .i64 0, .int .u32 0, .slice none 0 0] 65)) := (Below.refl _ w).alloc (Nat.le_refl _) _
  have hwr : Box4 w.heap.size (.string ⟨#[]⟩) (.int .i64 0) (.int .u32 0) (.slice none 0 0) (w.alloc (.cells #[.string ⟨#[]⟩, .int .i64 0, .int .u32 0, .slice none 0 0] 65)) := Box4.mk' _ _ _ _ _ _
  have hs0 := hs.below hb0
  have HB0 := Lib.hid hb0
  have HWR := Lib.hid hwr
  have HS0 := Lib.hid hs0
  have hg1 : 3 < w.heap.size := World.block_lt_of_cell? w _ (hs 1 (by simp))
  have hg3 : 9 < w.heap.size := World.block_lt_of_cell? w _ (hs 3 (by simp))
  clear hb0 hwr hs0 hs
  cases hN : isName n.data.toList with
  | false =>
    have HE : Hid (ofRes n.data.toList s.data.toList = (4, rcpZero)) := Lib.hid (if_pos hN)
    have HN := Lib.hid hN
    clear hN hz
    go_enter Tryz.func54, Tryz.ntmps54
    go_wp2_with fail
    refine (RcName_any n hn _).mono ?_
    rintro e w1 ⟨rfl, hb1⟩
    rw [HN.out]
    have hbr := HWR.out.below hb1 HWR.out.lt
    have HBR := Lib.hid hbr
    obtain ⟨c0, c1, c2, c3, hf⟩ := hbr
    have f0 := hf 0
    have f1 := hf 1
    have f2 := hf 2
    have f3 := hf 3
    have hs3 : w1.cell? ⟨9, 0, none⟩ = some (sval a 3) := (HS0.out.below hb1) 3 (by simp)
    unfold sval at hs3
    obtain ⟨d0, d1, d2, d3, _⟩ := HBR.out.set (.string ⟨#[]⟩) (.int .i64 0) (.int .u32 0) (.slice none 0 0)
    have hne : ¬ (9 = w.heap.size) := by omega
    have HB9 := Lib.hid (below_set4 (HB0.out.trans (hb1.mono HB0.out.size)) (Nat.le_refl _) (.string ⟨#[]⟩) (.int .i64 0) (.int .u32 0) (.slice none 0 0)).drew
    clear hf hb1
    go_wp2
    go_region
    go_wp2
    refine bodyPost_ret (v := .tuple #[zeroV, .iface 361 (.pointer (some (a 3)))]) (by simp [results, Tryz.results54, go_sem, d0, d1, d2, d3, zeroV]) rfl ?_
    exact ⟨zeroV, _, rfl, by rw [HE.out]; exact ES.sent a 3 (by decide), by rw [HE.out]; exact RcpW.zero _ _ _, HB9.out⟩
  | true =>
    by_cases h4 : s.size ≤ 4000
    · have e1 : ofRes n.data.toList s.data.toList = (0, rcpOf n.data.toList s.data.toList) := by unfold ofRes; rw [if_neg (by rw [hN]; simp), if_neg (by omega)]
      rw [e1]
      exact (RcOf_ok n s hn hN h4 w).mono fun e w' ⟨v, he, hv, hb⟩ => ⟨v, _, he, ES.none a, hv, hb⟩
    · have h4i : (s.size : Int) > 4000 := by omega
      have HE : Hid (ofRes n.data.toList s.data.toList = (2, rcpZero)) := Lib.hid (by unfold ofRes; rw [if_neg (by rw [hN]; simp), if_pos (by omega)])
      have HN := Lib.hid hN
      clear hN hz h4
      go_enter Tryz.func54, Tryz.ntmps54
      go_wp2_with fail
      refine (RcName_any n hn _).mono ?_
      rintro e w1 ⟨rfl, hb1⟩
      rw [HN.out]
      have hbr := HWR.out.below hb1 HWR.out.lt
      have HBR := Lib.hid hbr
      obtain ⟨c0, c1, c2, c3, hf⟩ := hbr
      have f0 := hf 0
      have f1 := hf 1
      have f2 := hf 2
      have f3 := hf 3
      have hs3 : w1.cell? ⟨3, 0, none⟩ = some (sval a 1) := (HS0.out.below hb1) 1 (by simp)
      unfold sval at hs3
      obtain ⟨d0, d1, d2, d3, _⟩ := HBR.out.set (.string ⟨#[]⟩) (.int .i64 0) (.int .u32 0) (.slice none 0 0)
      have hne : ¬ (3 = w.heap.size) := by omega
      have HB9 := Lib.hid (below_set4 (HB0.out.trans (hb1.mono HB0.out.size)) (Nat.le_refl _) (.string ⟨#[]⟩) (.int .i64 0) (.int .u32 0) (.slice none 0 0)).drew
      clear hf hb1
      go_wp2
      go_region
      go_wp2
      refine bodyPost_ret (v := .tuple #[zeroV, .iface 361 (.pointer (some (a 1)))]) (by simp [results, Tryz.results54, go_sem, d0, d1, d2, d3, zeroV]) rfl ?_
      exact ⟨zeroV, _, rfl, by rw [HE.out]; exact ES.sent a 1 (by decide), by rw [HE.out]; exact RcpW.zero _ _ _, HB9.out⟩
end Go.Proofs.YtpanoplcamdnkaaGreatDoor

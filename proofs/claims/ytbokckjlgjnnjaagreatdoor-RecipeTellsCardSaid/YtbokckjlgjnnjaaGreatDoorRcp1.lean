/- RcA, RcB, RcC, RcT, RcJ in one text. Conditions: as each part says. -/
import Derived.Test.YtbokckjlgjnnjaaGreatDoorIds
import Derived.Test.YtbokckjlgjnnjaaGreatDoorRefY
import Derived.Test.YtbokckjlgjnnjaaGreatDoorCutR
import Derived.Test.YtbokckjlgjnnjaaGreatDoorPrR
import Derived.OwnWalk
import Derived.Test.YtbokckjlgjnnjaaGreatDoorPrT
import Derived.Test.YtbokckjlgjnnjaaGreatDoorCutB
import Derived.Test.YtbokckjlgjnnjaaGreatDoorName
import Derived.Test.YtbokckjlgjnnjaaGreatDoorRead
import Derived.Laws.OwnMore
/- Walk of the reference's RecipeOf. Conditions: as named. -/
namespace Go.Proofs.YtbokckjlgjnnjaaGreatDoor
open Go.RowKit Go.Lib

theorem idsTake {ps : List Bytes} {k : Nat} (hk : k < ps.length) : idRow ((ps.take (k + 1)).map idOf) = idRow ((ps.take k).map idOf) ++ [.int .u32 ((prOf ps[k] : Nat) : Int), .int .i64 (ps[k].length : Int)] := by
  rw [List.take_succ_eq_append_getElem hk, List.map_append, idRow_append]; rfl
set_option maxRecDepth 100000 in
set_option maxHeartbeats 1000000 in
theorem RRecipeOf_ok (n s : ByteArray) (hn : n.size ≤ maxLen) (hN : isName n.data.toList = true) (hs : s.size ≤ 4000) (w : World) :
    Calls Tryz.prog 28 #[.string n, .string s] w fun e w' => ∃ v, e = .returned (.tuple #[v, .int .i64 0]) ∧ RcpV w' w'.heap.size v (rcpOf n.data.toList s.data.toList) ∧ Below w.heap.size w w' := by
  obtain ⟨i0, hi, hz0, hz1, hz2⟩ := info_parts info_idI
  have b1 : ¬ (s.size : Int) > 4000 := by omega
  have HL : Hid ((pieces s.data.toList).length ≤ 4000) := Lib.hid (by have := pieces_length_le s.data.toList; have := size_toList s; omega)
  have HS := Lib.hid (size_toList s)
  have HNN := Lib.hid hN
  clear hN
  go_enter Tryz.func28, Tryz.ntmps28
  go_wp2_with fail
  refine (RIsName_any n hn _).mono ?_
  rintro e w1 ⟨rfl, rfl⟩
  rw [HNN.out]
  go_wp2_with fail
  refine (PiecesOf_any s (by omega) _).mono ?_
  rintro e w1 ⟨v1, rfl, ho1, hb1⟩
  have hw0 : Box4 w.heap.size (.string ⟨#[]⟩) (.int .i64 0) (.int .u32 0) (.slice none 0 0) (w.alloc (.cells #[.string ⟨#[]⟩, .int .i64 0, .int .u32 0, .slice none 0 0] 36)) := Box4.mk' _ _ _ _ _ _
  have hbb : Below w.heap.size w w1 := ((Below.refl _ w).alloc (Nat.le_refl _) _).trans (hb1.mono (by simp))
  have hbx := hw0.below hb1 (by simp)
  obtain ⟨A1, c1, rfl, hc1, hrd⟩ := own_rdI ho1
  have HRD := Lib.hid hrd
  have HBB := Lib.hid hbb
  have hsz : w.heap.size < w1.heap.size := by have := hb1.size; simp at this; omega
  generalize hps : pieces s.data.toList = ps at *
  have hl := HL.out
  clear hrd hbb hw0 ho1 hb1
  go_wp2
  go_loopg [7, 9] ps.length (fun gh vs vi wr => ∃ k : Nat, vi = .int .i64 k ∧ k ≤ ps.length ∧ gh = ps.length - k ∧ wr.ownsRow w1.heap.size 71 2 vs k (idRow ((ps.take k).map idOf)) ∧ Below w1.heap.size w1 wr)
  case atStart => exact ⟨0, rfl, Nat.zero_le _, rfl, World.ownsRow_nil _ _ _ _, Below.refl _ _⟩
  case round =>
    obtain ⟨k, rfl, hk, hgm, hrow, hB⟩ := hrel
    by_cases hkl : k < ps.length
    · obtain ⟨g, rfl, hg1, hg2, hcell⟩ := HRD.out (by omega)
      have hd1 : w1.cell? ⟨g, k, none⟩ = some (.string (bs ps[k])) := hcell k _ (by simp [hkl])
      have d1 : wr.cell? ⟨g, k, none⟩ = some (.string (bs ps[k])) := (hB.cell (p := ⟨g, k, none⟩) hg2).trans hd1
      have b1 : (0 : Int) ≤ (k : Int) := by omega
      have b2 : (k : Int) < (ps.length : Int) := by omega
      have HT := Lib.hid (idsTake hkl)
      have hpz : (bs ps[k]).size ≤ 4000 := by
        rw [bs_size]
        have hm : ps[k] ∈ pieces s.data.toList := by rw [hps]; exact List.getElem_mem hkl
        have := pieces_max _ _ hm
        omega
      have HBT := Lib.hid (bs_toList ps[k])
      have HBZ := Lib.hid (bs_size ps[k])
      clear hd1 hcell
      go_wp2_with fail
      refine (IDOf_any (bs ps[k]) _ (by unfold maxLen; omega)).mono ?_
      rintro e w2 ⟨rfl, hb2⟩
      have ho2 := own_belowI hrow hb2
      have hB2 := hB.trans (hb2.mono hB.size)
      rw [HBT.out, HBZ.out]
      go_wp2_with (at_builtin; refine wpList_append_own _ rfl _ _ 34 rfl w1.heap.size 71 i0 (.agg #[.int .u32 0, .int .i64 0]) 2 16 Tryz.underlying34 hi hz0 hz1 hz2 rfl (by decide) _ _ _ rfl (own_belowI (own_belowI ho2 ((Below.refl _ _).alloc (Nat.le_refl _) _)) ((Below.refl _ _).alloc (Nat.le_refl _) _)) ⟨w2.heap.size + 1, 0, none⟩ 1 1 [.int .u32 ((prOf ps[k] : Nat) : Int), .int .i64 (ps[k].length : Int)] rfl rfl (by have := cell_newI (w2.alloc (.cells #[.int .u32 ((prOf ps[k] : Nat) : Int), .int .i64 (ps[k].length : Int)] 71)) (.int .u32 ((prOf ps[k] : Nat) : Int)) (.int .i64 (ps[k].length : Int)) 71; simpa using this) (by simp [Value.oneCell']) (by unfold maxLen; omega) (by omega) (by have := hB2.size; simp; omega) ?_; intro v5 w5 ho5 hg5 _)
      go_roundg (ps.length - (k + 1))
      case measure => omega
      case rel => exact ⟨k + 1, by go_num, hkl, rfl, by rw [HT.out]; exact ho5, (((hB2.alloc hB2.size _).alloc (by have := hB2.size; simp; omega) _)).grown hg5 (by have := hB2.size; simp; omega) (fun b he => own_ge ho2 he)⟩
    · obtain rfl : k = ps.length := by omega
      have hbxr := hbx.below hB hsz
      have HBX := Lib.hid hbxr
      obtain ⟨c0, c1x, c2, c3, hfz⟩ := hbxr
      have f0 := hfz 0
      have f1 := hfz 1
      have f2 := hfz 2
      have f3 := hfz 3
      obtain ⟨A, c, rfl⟩ := own_formI hrow
      obtain ⟨d0, d1, d2, d3, _⟩ := HBX.out.set (.string n) (.int .i64 (s.size : Int)) (.int .u32 ((prOf s.data.toList : Nat) : Int)) (.slice A ps.length c)
      have HP : Hid (RcpV ((((wr.setCell ⟨w.heap.size, 0, none⟩ (.string n)).setCell ⟨w.heap.size, 1, none⟩ (.int .i64 (s.size : Int))).setCell ⟨w.heap.size, 2, none⟩ (.int .u32 ((prOf s.data.toList : Nat) : Int))).setCell ⟨w.heap.size, 3, none⟩ (.slice A ps.length c)) ((((wr.setCell ⟨w.heap.size, 0, none⟩ (.string n)).setCell ⟨w.heap.size, 1, none⟩ (.int .i64 (s.size : Int))).setCell ⟨w.heap.size, 2, none⟩ (.int .u32 ((prOf s.data.toList : Nat) : Int))).setCell ⟨w.heap.size, 3, none⟩ (.slice A ps.length c)).heap.size
          (.agg #[.string n, .int .i64 (s.size : Int), .int .u32 ((prOf s.data.toList : Nat) : Int), .slice A ps.length c]) (rcpOf n.data.toList s.data.toList)) := Lib.hid (by
        rw [List.take_of_length_le (Nat.le_refl _)] at hrow
        have e1 : (rcpOf n.data.toList s.data.toList).ids = ps.map idOf := by show idsOf _ = _; unfold idsOf; rw [hps]
        refine ⟨_, ?_, by rw [e1]; exact RdI.own (own_set4 hrow hsz _ _ _ _) (by rw [List.length_map])⟩
        rw [show VT (rcpOf n.data.toList s.data.toList).name = .string n by show Value.string (bs n.data.toList) = _; rw [bs_of]]
        rw [show (rcpOf n.data.toList s.data.toList).len = (s.size : Int) by rw [HS.out]; rfl]
        rfl)
      have HB9 := Lib.hid (below_set4 (HBB.out.trans (hB.mono (Nat.le_of_lt hsz))) (Nat.le_refl _) (.string n) (.int .i64 (s.size : Int)) (.int .u32 ((prOf s.data.toList : Nat) : Int)) (.slice A ps.length c))
      clear hfz hrow
      go_wp2_with fail
      refine (PrintOf_any s _ (by unfold maxLen; omega)).mono ?_
      rintro e w2 ⟨rfl, rfl⟩
      go_wp2
      refine bodyPost_ret (v := .tuple #[.agg #[.string n, .int .i64 (s.size : Int), .int .u32 ((prOf s.data.toList : Nat) : Int), .slice A ps.length c], .int .i64 0]) (by simp [results, Tryz.results28, go_sem, d0, d1, d2, d3]) rfl ?_
      exact ⟨_, rfl, HP.out, HB9.out⟩
def ofRes (n s : Bytes) : Int × Rcp := if isName n = false then (4, rcpZero) else if 4000 < s.length then (2, rcpZero) else (0, rcpOf n s)
set_option maxRecDepth 100000 in
theorem RRecipeOf_any (n s : ByteArray) (hn : n.size ≤ maxLen) (w : World) :
    Calls Tryz.prog 28 #[.string n, .string s] w fun e w' => ∃ v, e = .returned (.tuple #[v, .int .i64 (ofRes n.data.toList s.data.toList).1]) ∧ RcpV w' w'.heap.size v (ofRes n.data.toList s.data.toList).2 ∧ Below w.heap.size w w' := by
  have hz := size_toList s
  have hb0 : Below w.heap.size w (w.alloc (.cells #[.string ⟨#[]⟩, .int .i64 0, .int .u32 0, .slice none 0 0] 36)) := (Below.refl _ w).alloc (Nat.le_refl _) _
  cases hN : isName n.data.toList with
  | false =>
    have HE : Hid (ofRes n.data.toList s.data.toList = (4, rcpZero)) := Lib.hid (if_pos hN)
    have HN := Lib.hid hN
    clear hN hz
    go_enter Tryz.func28, Tryz.ntmps28
    go_wp2_with fail
    refine (RIsName_any n hn _).mono ?_
    rintro e w1 ⟨rfl, rfl⟩
    rw [HN.out]
    go_wp2
    refine bodyPost_ret (v := .tuple #[zeroV, .int .i64 4]) (by simp [results, Tryz.results28, go_sem, zeroV]) rfl ?_
    exact ⟨zeroV, by rw [HE.out], by rw [HE.out]; exact zero_rcp _ _, hb0⟩
  | true =>
    by_cases h4 : s.size ≤ 4000
    · have e1 : ofRes n.data.toList s.data.toList = (0, rcpOf n.data.toList s.data.toList) := by unfold ofRes; rw [if_neg (by rw [hN]; simp), if_neg (by omega)]
      rw [e1]
      exact RRecipeOf_ok n s hn hN h4 w
    · have h4i : (s.size : Int) > 4000 := by omega
      have HE : Hid (ofRes n.data.toList s.data.toList = (2, rcpZero)) := Lib.hid (by unfold ofRes; rw [if_neg (by rw [hN]; simp), if_pos (by omega)])
      have HN := Lib.hid hN
      clear hN hz h4
      go_enter Tryz.func28, Tryz.ntmps28
      go_wp2_with fail
      refine (RIsName_any n hn _).mono ?_
      rintro e w1 ⟨rfl, rfl⟩
      rw [HN.out]
      go_wp2
      refine bodyPost_ret (v := .tuple #[zeroV, .int .i64 2]) (by simp [results, Tryz.results28, go_sem, zeroV]) rfl ?_
      exact ⟨zeroV, by rw [HE.out], by rw [HE.out]; exact zero_rcp _ _, hb0⟩
end Go.Proofs.YtbokckjlgjnnjaaGreatDoor
/- Walk of recipe.Of. Condition: the sentinels that are read lie as named (SomeS). -/
namespace Go.Proofs.YtbokckjlgjnnjaaGreatDoor
open Go.RowKit Go.Lib

set_option maxRecDepth 100000 in
set_option maxHeartbeats 1000000 in
theorem RcOf_ok (n s : ByteArray) (hn : n.size ≤ maxLen) (hN : isName n.data.toList = true) (hs : s.size ≤ 4000) (w : World) :
    Calls Tryz.prog 27 #[.string n, .string s] w fun e w' => ∃ v, e = .returned (.tuple #[v, .nilIface]) ∧ RcpV w' w'.heap.size v (rcpOf n.data.toList s.data.toList) ∧ Below w.heap.size w w' := by
  obtain ⟨i0, hi, hz0, hz1, hz2⟩ := info_parts info_idI
  have b1 : ¬ (s.size : Int) > 4000 := by omega
  have HL : Hid ((pieces s.data.toList).length ≤ 4000) := Lib.hid (by have := pieces_length_le s.data.toList; have := size_toList s; omega)
  have HS := Lib.hid (size_toList s)
  have HNN := Lib.hid hN
  clear hN
  go_enter Tryz.func27, Tryz.ntmps27
  go_wp2_with fail
  refine (RcName_any n hn _).mono ?_
  rintro e w1 ⟨rfl, hb1⟩
  rw [HNN.out]
  go_wp2_with fail
  refine (POf_any s _ (by unfold maxLen; omega)).mono ?_
  rintro e w2 ⟨rfl, rfl⟩
  go_wp2_with fail
  refine (Pieces_any s (by omega) _).mono ?_
  rintro e w3 ⟨v1, rfl, ho1, hb3⟩
  have hwr : Box4 w.heap.size (.string ⟨#[]⟩) (.int .i64 0) (.int .u32 0) (.slice none 0 0) (w.alloc (.cells #[.string ⟨#[]⟩, .int .i64 0, .int .u32 0, .slice none 0 0] 36)) := Box4.mk' _ _ _ _ _ _
  have hres1 := hwr.below hb1 (by simp)
  have hbx2 : Box4 w1.heap.size (.string n) (.int .i64 (s.size : Int)) (.int .u32 ((prOf s.data.toList : Nat) : Int)) (.slice none 0 0) (w1.alloc (.cells #[.string n, .int .i64 (s.size : Int), .int .u32 ((prOf s.data.toList : Nat) : Int), .slice none 0 0] 36)) := Box4.mk' _ _ _ _ _ _
  have hb13 : Below w1.heap.size w1 w3 := ((Below.refl w1.heap.size w1).alloc (Nat.le_refl _) _).trans (hb3.mono (by simp))
  have hrx3 := hbx2.below hb3 (by simp)
  have hres3 := hres1.below hb13 hres1.lt
  have hb03 : Below w.heap.size w w3 := (((Below.refl _ w).alloc (Nat.le_refl _) _).trans (hb1.mono (by simp))).trans (hb13.mono (Nat.le_of_lt hres1.lt))
  have hlt1 : w.heap.size < w1.heap.size := hres1.lt
  have hne : w.heap.size ≠ w1.heap.size := Nat.ne_of_lt hlt1
  have hlt3 := hrx3.lt
  obtain ⟨A1, c1, rfl, hc1, hrd⟩ := own_rdI ho1
  have HRD := Lib.hid hrd
  have HBB := Lib.hid hb03
  have HRES := Lib.hid hres3
  generalize hps : pieces s.data.toList = ps at *
  have hl := HL.out
  clear hrd hwr hres1 hbx2 hb13 ho1 hb3 hb1 hb03 hres3
  go_wp2
  go_loopg [30] ps.length (fun gh vi wr => ∃ (k : Nat) (vs : Value), vi = .int .i64 k ∧ k ≤ ps.length ∧ gh = ps.length - k ∧ wr.ownsRow w3.heap.size 71 2 vs k (idRow ((ps.take k).map idOf)) ∧ w3.grownBy wr (some w1.heap.size) ∧ Box4 w1.heap.size (.string n) (.int .i64 (s.size : Int)) (.int .u32 ((prOf s.data.toList : Nat) : Int)) vs wr)
  case atStart => exact ⟨0, _, rfl, Nat.zero_le _, rfl, World.ownsRow_nil _ _ _ _, ⟨rfl, rfl, rfl, Nat.le_refl _, fun _ _ _ => rfl⟩, hrx3⟩
  case round =>
    obtain ⟨k, vs, rfl, hk, hgm, hrow, hg, hbx⟩ := hrel
    obtain ⟨A, c, rfl⟩ := own_formI hrow
    by_cases hkl : k < ps.length
    · obtain ⟨g, rfl, hg1, hg2, hcell⟩ := HRD.out (by omega)
      have hgne : some g ≠ some w1.heap.size := by intro e; injection e with e; simp at hg1; omega
      have hd1 : w3.cell? ⟨g, k, none⟩ = some (.string (bs ps[k])) := hcell k _ (by simp [hkl])
      have d1 : wr.cell? ⟨g, k, none⟩ = some (.string (bs ps[k])) := (hg.cell_far ⟨g, k, none⟩ hg2 hgne).trans hd1
      have b1 : (0 : Int) ≤ (k : Int) := by omega
      have b2 : (k : Int) < (ps.length : Int) := by omega
      have HT := Lib.hid (idsTake hkl)
      have hpz : (bs ps[k]).size ≤ 4000 := by
        rw [bs_size]
        have hm : ps[k] ∈ pieces s.data.toList := by rw [hps]; exact List.getElem_mem hkl
        have := pieces_max _ _ hm
        omega
      have HBT := Lib.hid (bs_toList ps[k])
      have HBZ := Lib.hid (bs_size ps[k])
      have HBX := Lib.hid hbx
      have HROW := Lib.hid hrow
      have HG := Lib.hid hg
      clear hd1 hcell hbx hrow hg
      go_wp2
      have hS0 : Below wr.heap.size wr wr.drew := (Below.refl _ _).drew
      refine region_S (fun w' => Below wr.heap.size wr w') 5 (by kernel_rfl) (by kernel_rfl) ?_
      refine take_S 0 rfl (by kernel_rfl) (by kernel_rfl) hS0 (fun w' hS => by go_simp; rfl) ?_
      refine take_S 1 rfl (by kernel_rfl) (by kernel_rfl) hS0 (fun w' hS => by have A3 := (HBX.out.below hS HBX.out.lt).c3; go_simp; rfl) ?_
      refine take_S 2 rfl (by kernel_rfl) (by kernel_rfl) hS0 (fun w' hS => by go_simp; rfl) ?_
      refine carry_S 3 rfl (by kernel_rfl) (by decide) (by kernel_rfl) (fun K hK => ?_)
      go_simp
      refine (ID_any (bs ps[k]) _ (by unfold maxLen; omega)).mono ?_
      rintro e w4 ⟨rfl, hb4⟩
      have hS4 : Below wr.heap.size wr w4 := hS0.trans hb4
      rw [HBT.out, HBZ.out]
      refine hK _ _ hS4 ?_
      clear hK K
      try simp only [Act.put, List.getElem_toArray, List.getElem_cons_succ, List.getElem_cons_zero, List.setIfInBounds_toArray, List.set_cons_zero, List.set_cons_succ]
      refine carry_S 4 rfl (by kernel_rfl) (by decide) (by kernel_rfl) (fun K hK => ?_)
      go_simp
      have hS5 := hS4.alloc hS4.size (.cells #[.int .u32 ((prOf ps[k] : Nat) : Int), .int .i64 (ps[k].length : Int)] 71)
      refine hK _ _ hS5 (forced_S (by kernel_rfl) ?_)
      clear hK K
      try simp only [Act.put, List.getElem_toArray, List.getElem_cons_succ, List.getElem_cons_zero, List.setIfInBounds_toArray, List.set_cons_zero, List.set_cons_succ]
      simp only [List.drop_succ_cons, List.drop_zero]
      have hS5' := HBX.out.below hS5 HBX.out.lt
      have ho5 := own_belowI HROW.out hS5
      have HBX5 := Lib.hid hS5'
      have hG5 := gb_below HG.out hS5
      generalize hw5 : w4.alloc (.cells #[.int .u32 ((prOf ps[k] : Nat) : Int), .int .i64 (ps[k].length : Int)] 71) = w5 at *
      go_wp2_with (at_builtin; refine wpList_append_own _ rfl _ _ 34 rfl w3.heap.size 71 i0 (.agg #[.int .u32 0, .int .i64 0]) 2 16 Tryz.underlying34 hi hz0 hz1 hz2 rfl (by decide) _ _ _ rfl ho5 ⟨w4.heap.size, 0, none⟩ 1 1 [.int .u32 ((prOf ps[k] : Nat) : Int), .int .i64 (ps[k].length : Int)] rfl rfl (by rw [← hw5]; exact cell_newI w4 _ _ _) (by simp [Value.oneCell']) (by unfold maxLen; omega) (by omega) (by have := hG5.size; omega) ?_; intro v6 w6 ho6 hg6 _; obtain ⟨A6, c6, rfl⟩ := own_formI ho6; have HBX6 := Lib.hid (gb_box4 hg6 (own_far ho5 hlt3) HBX5.out); have c36 := HBX6.out.c3; have f36 := HBX6.out.f 3)
      go_roundg (ps.length - (k + 1))
      case measure => omega
      case rel => exact ⟨k + 1, _, by go_num, hkl, rfl, own_setI (by rw [HT.out]; exact ho6) hlt3, gb_set (gb_row hG5 (Nat.le_refl _) ho5 hg6) _ _, HBX6.out.set3 _⟩
    · obtain rfl : k = ps.length := by omega
      have hres := gb_box4 hg (by intro e; injection e with e; exact hne e) HRES.out
      have HRESR := Lib.hid hres
      obtain ⟨r0, r1, r2, r3, rf⟩ := hres
      obtain ⟨c0, c1x, c2, c3, _⟩ := hbx
      have f0 := rf 0
      have f1 := rf 1
      have f2 := rf 2
      have f3 := rf 3
      obtain ⟨d0, d1, d2, d3, _⟩ := HRESR.out.set (.string n) (.int .i64 (s.size : Int)) (.int .u32 ((prOf s.data.toList : Nat) : Int)) (.slice A ps.length c)
      have hgb := gb_toBelow HBB.out (by omega) (by omega) hg
      have HP : Hid (RcpV ((((wr.setCell ⟨w.heap.size, 0, none⟩ (.string n)).setCell ⟨w.heap.size, 1, none⟩ (.int .i64 (s.size : Int))).setCell ⟨w.heap.size, 2, none⟩ (.int .u32 ((prOf s.data.toList : Nat) : Int))).setCell ⟨w.heap.size, 3, none⟩ (.slice A ps.length c)) ((((wr.setCell ⟨w.heap.size, 0, none⟩ (.string n)).setCell ⟨w.heap.size, 1, none⟩ (.int .i64 (s.size : Int))).setCell ⟨w.heap.size, 2, none⟩ (.int .u32 ((prOf s.data.toList : Nat) : Int))).setCell ⟨w.heap.size, 3, none⟩ (.slice A ps.length c)).heap.size
          (.agg #[.string n, .int .i64 (s.size : Int), .int .u32 ((prOf s.data.toList : Nat) : Int), .slice A ps.length c]) (rcpOf n.data.toList s.data.toList)) := Lib.hid (by
        rw [List.take_of_length_le (Nat.le_refl _)] at hrow
        have e1 : (rcpOf n.data.toList s.data.toList).ids = ps.map idOf := by show idsOf _ = _; unfold idsOf; rw [hps]
        refine ⟨_, ?_, by rw [e1]; exact RdI.own (own_set4 hrow HRES.out.lt _ _ _ _) (by rw [List.length_map])⟩
        rw [show VT (rcpOf n.data.toList s.data.toList).name = .string n by show Value.string (bs n.data.toList) = _; rw [bs_of]]
        rw [show (rcpOf n.data.toList s.data.toList).len = (s.size : Int) by rw [HS.out]; rfl]
        rfl)
      have HB9 := Lib.hid (below_set4 hgb (Nat.le_refl _) (.string n) (.int .i64 (s.size : Int)) (.int .u32 ((prOf s.data.toList : Nat) : Int)) (.slice A ps.length c))
      clear rf hrow hgb hg
      go_wp2
      refine bodyPost_ret (v := .tuple #[.agg #[.string n, .int .i64 (s.size : Int), .int .u32 ((prOf s.data.toList : Nat) : Int), .slice A ps.length c], .nilIface]) (by simp [results, Tryz.results27, go_sem, d0, d1, d2, d3]) rfl ?_
      exact ⟨_, rfl, HP.out, HB9.out⟩
set_option maxRecDepth 100000 in
set_option maxHeartbeats 1000000 in
theorem RcOf_any (a : Nat → Addr) (n s : ByteArray) (hn : n.size ≤ maxLen) (w : World) (hs : SomeS [1, 3] a w) :
    Calls Tryz.prog 27 #[.string n, .string s] w fun e w' => ∃ v r, e = .returned (.tuple #[v, r]) ∧ EV a r (ofRes n.data.toList s.data.toList).1 (-1) w' ∧ RcpV w' w'.heap.size v (ofRes n.data.toList s.data.toList).2 ∧ Below w.heap.size w w' := by
  have hz := size_toList s
  have hb0 : Below w.heap.size w (w.alloc (.cells #[.string ⟨#[]⟩, .int .i64 0, .int .u32 0, .slice none 0 0] 36)) := (Below.refl _ w).alloc (Nat.le_refl _) _
  have hwr : Box4 w.heap.size (.string ⟨#[]⟩) (.int .i64 0) (.int .u32 0) (.slice none 0 0) (w.alloc (.cells #[.string ⟨#[]⟩, .int .i64 0, .int .u32 0, .slice none 0 0] 36)) := Box4.mk' _ _ _ _ _ _
  have hs0 := hs.below hb0
  have HB0 := Lib.hid hb0
  have HWR := Lib.hid hwr
  have HS0 := Lib.hid hs0
  have hg1 : 1 < w.heap.size := World.block_lt_of_cell? w _ (hs 1 (by simp))
  have hg3 : 3 < w.heap.size := World.block_lt_of_cell? w _ (hs 3 (by simp))
  clear hb0 hwr hs0 hs
  cases hN : isName n.data.toList with
  | false =>
    have HE : Hid (ofRes n.data.toList s.data.toList = (4, rcpZero)) := Lib.hid (if_pos hN)
    have HN := Lib.hid hN
    clear hN hz
    go_enter Tryz.func27, Tryz.ntmps27
    go_wp2_with fail
    refine (RcName_any n hn _).mono ?_
    rintro e w1 ⟨rfl, hb1⟩
    rw [HN.out]
    have hbr := HWR.out.below hb1 HWR.out.lt
    have HBR := Lib.hid hbr
    obtain ⟨c0, c1, c2, c3, hf⟩ := hbr
    have f0 := hf 0
    have f1 := hf 1
    have f2 := hf 2
    have f3 := hf 3
    have hs3 : w1.cell? ⟨3, 0, none⟩ = some (sval a 3) := (HS0.out.below hb1) 3 (by simp)
    unfold sval at hs3
    obtain ⟨d0, d1, d2, d3, _⟩ := HBR.out.set (.string ⟨#[]⟩) (.int .i64 0) (.int .u32 0) (.slice none 0 0)
    have hne : ¬ (3 = w.heap.size) := by omega
    have HB9 := Lib.hid (below_set4 (HB0.out.trans (hb1.mono HB0.out.size)) (Nat.le_refl _) (.string ⟨#[]⟩) (.int .i64 0) (.int .u32 0) (.slice none 0 0)).drew
    clear hf hb1
    go_wp2
    go_region
    go_wp2
    refine bodyPost_ret (v := .tuple #[zeroV, .iface 265 (.pointer (some (a 3)))]) (by simp [results, Tryz.results27, go_sem, d0, d1, d2, d3, zeroV]) rfl ?_
    exact ⟨zeroV, _, rfl, by rw [HE.out]; exact EV.sent a _ 3 (by decide), by rw [HE.out]; exact zero_rcp _ _, HB9.out⟩
  | true =>
    by_cases h4 : s.size ≤ 4000
    · have e1 : ofRes n.data.toList s.data.toList = (0, rcpOf n.data.toList s.data.toList) := by unfold ofRes; rw [if_neg (by rw [hN]; simp), if_neg (by omega)]
      rw [e1]
      exact (RcOf_ok n s hn hN h4 w).mono fun e w' ⟨v, he, hv, hb⟩ => ⟨v, _, he, EV.none a _, hv, hb⟩
    · have h4i : (s.size : Int) > 4000 := by omega
      have HE : Hid (ofRes n.data.toList s.data.toList = (2, rcpZero)) := Lib.hid (by unfold ofRes; rw [if_neg (by rw [hN]; simp), if_pos (by omega)])
      have HN := Lib.hid hN
      clear hN hz h4
      go_enter Tryz.func27, Tryz.ntmps27
      go_wp2_with fail
      refine (RcName_any n hn _).mono ?_
      rintro e w1 ⟨rfl, hb1⟩
      rw [HN.out]
      have hbr := HWR.out.below hb1 HWR.out.lt
      have HBR := Lib.hid hbr
      obtain ⟨c0, c1, c2, c3, hf⟩ := hbr
      have f0 := hf 0
      have f1 := hf 1
      have f2 := hf 2
      have f3 := hf 3
      have hs3 : w1.cell? ⟨1, 0, none⟩ = some (sval a 1) := (HS0.out.below hb1) 1 (by simp)
      unfold sval at hs3
      obtain ⟨d0, d1, d2, d3, _⟩ := HBR.out.set (.string ⟨#[]⟩) (.int .i64 0) (.int .u32 0) (.slice none 0 0)
      have hne : ¬ (1 = w.heap.size) := by omega
      have HB9 := Lib.hid (below_set4 (HB0.out.trans (hb1.mono HB0.out.size)) (Nat.le_refl _) (.string ⟨#[]⟩) (.int .i64 0) (.int .u32 0) (.slice none 0 0)).drew
      clear hf hb1
      go_wp2
      go_region
      go_wp2
      refine bodyPost_ret (v := .tuple #[zeroV, .iface 265 (.pointer (some (a 1)))]) (by simp [results, Tryz.results27, go_sem, d0, d1, d2, d3, zeroV]) rfl ?_
      exact ⟨zeroV, _, rfl, by rw [HE.out]; exact EV.sent a _ 1 (by decide), by rw [HE.out]; exact zero_rcp _ _, HB9.out⟩
end Go.Proofs.YtbokckjlgjnnjaaGreatDoor
/- Walk of recipe.Check. Condition: the sentinels that are read lie as named (SomeS). -/
namespace Go.Proofs.YtbokckjlgjnnjaaGreatDoor
open Go.RowKit Go.Lib

/-- bounds of a recipe's numbers, as Go's own -/
structure RcpB (r : Rcp) : Prop where
  n : r.name.length ≤ 1000000
  l0 : -9223372036854775808 ≤ r.len
  l1 : r.len ≤ 9223372036854775807
  p : r.print < 4294967296
  c : r.ids.length ≤ 1000000
  i : ∀ x ∈ r.ids, x.1 < 4294967296 ∧ -9223372036854775808 ≤ x.2 ∧ x.2 ≤ 9223372036854775807
def CheckPost (a : Nat → Addr) (r : Rcp) (w : World) (e : Ending) (w' : World) : Prop := ∃ x, e = .returned x ∧ EV a x (rcpFault r).1 (rcpFault r).2 w' ∧ Below w.heap.size w w'
theorem check_sent {a : Nat → Addr} {r : Rcp} {w w' : World} {k : Nat} (hk : k < 12) (h : rcpFault r = ((k : Int) + 1, -1)) (hb : Below w.heap.size w w') : CheckPost a r w (.returned (.iface 265 (.pointer (some (a k))))) w' :=
  ⟨_, rfl, by rw [h]; exact EV.sent a w' k hk, hb⟩
theorem fault_next {len : Int} {i : Nat} {n : Int} {L : IdL} {k : Nat} (hk : k < L.length) (h : ¬ (L[k].2 < 1 ∨ 64 < L[k].2)) : idsFault len i n (L.drop k) = idsFault len (i + 1) (n + L[k].2) (L.drop (k + 1)) := by
  rw [List.drop_eq_getElem_cons hk]
  exact if_neg h
theorem fault_hit {len : Int} {i : Nat} {n : Int} {L : IdL} {k : Nat} (hk : k < L.length) (h : L[k].2 < 1 ∨ 64 < L[k].2) : idsFault len i n (L.drop k) = (3, (i : Int)) := by
  rw [List.drop_eq_getElem_cons hk]
  exact if_pos h
set_option maxRecDepth 100000 in
set_option maxHeartbeats 2000000 in
theorem RcCheck_any (a : Nat → Addr) (v : Value) (r : Rcp) (hb : RcpB r) (w : World) (hv : RcpV w w.heap.size v r) (hs : SomeS [1, 2, 3, 6, 8] a w) :
    Calls Tryz.prog 34 #[v] w (CheckPost a r w) := by
  obtain ⟨sl, rfl, hrd⟩ := hv
  obtain ⟨A, c, rfl, hcap, hcells⟩ := hrd.form
  have hb0 : Below w.heap.size w (w.alloc (.cells #[VT r.name, .int .i64 r.len, .int .u32 (r.print : Int), .slice A r.ids.length c] 36)) := (Below.refl _ w).alloc (Nat.le_refl _) _
  have hbx : Box4 w.heap.size (VT r.name) (.int .i64 r.len) (.int .u32 (r.print : Int)) (.slice A r.ids.length c) (w.alloc (.cells #[VT r.name, .int .i64 r.len, .int .u32 (r.print : Int), .slice A r.ids.length c] 36)) := Box4.mk' _ _ _ _ _ _
  have HC := Lib.hid hcells
  have HB0 := Lib.hid hb0
  have HBX := Lib.hid hbx
  have HS := Lib.hid (hs.below hb0)
  have hnz : (bs r.name).size ≤ maxLen := by rw [bs_size]; have := hb.n; unfold maxLen; omega
  have hlz := hb.c
  have HN2 := Lib.hid (bs_toList r.name)
  clear hcells hrd hs hb0 hbx
  have name : ∀ (x : Bool), isName r.name = x → ∀ w, Calls Tryz.prog 42 #[.string (bs r.name)] w fun e w' => e = .returned (.bool x) ∧ Below w.heap.size w w' := fun x hx w => by
    have := RcName_any (bs r.name) hnz w
    rw [HN2.out, hx] at this
    exact this
  have NAME := Lib.hid name
  clear name
  cases hN : isName r.name with
  | false =>
    have hF : rcpFault r = (((3 : Nat) : Int) + 1, -1) := if_pos hN
    have HF := Lib.hid hF
    have hN2 := NAME.out false hN
    have HNM := Lib.hid hN2
    clear hF hN hN2
    go_enter Tryz.func34, Tryz.ntmps34
    go_wp2_with fail
    refine (HNM.out _).mono ?_
    rintro e w1 ⟨rfl, hb1⟩
    have s3 : w1.cell? ⟨3, 0, none⟩ = some (sval a 3) := (HS.out.below hb1) 3 (by simp)
    unfold sval at s3
    have HB9 := Lib.hid (HB0.out.trans (hb1.mono HB0.out.size))
    go_wp2
    go_ret
    exact check_sent (by decide) HF.out HB9.out
  | true =>
    have hN2 := NAME.out true hN
    have HNM := Lib.hid hN2
    have hnf : ¬ isName r.name = false := by rw [hN]; simp
    clear hN2
    by_cases h1 : r.len < 0
    · have hF : rcpFault r = (((1 : Nat) : Int) + 1, -1) := (if_neg hnf).trans (if_pos (.inl h1))
      have HF := Lib.hid hF
      clear hF hN hnf
      go_enter Tryz.func34, Tryz.ntmps34
      go_wp2_with fail
      refine (HNM.out _).mono ?_
      rintro e w1 ⟨rfl, hb1⟩
      have s3 : w1.cell? ⟨1, 0, none⟩ = some (sval a 1) := (HS.out.below hb1) 1 (by simp)
      unfold sval at s3
      have HB9 := Lib.hid (HB0.out.trans (hb1.mono HB0.out.size))
      obtain ⟨c0, c1, c2, c3, _⟩ := HBX.out.below hb1 HBX.out.lt
      go_wp2
      go_ret
      exact check_sent (by decide) HF.out HB9.out
    · by_cases h2 : 4000 < r.len
      · have hF : rcpFault r = (((1 : Nat) : Int) + 1, -1) := (if_neg hnf).trans (if_pos (.inr h2))
        have HF := Lib.hid hF
        clear hF hN hnf
        go_enter Tryz.func34, Tryz.ntmps34
        go_wp2_with fail
        refine (HNM.out _).mono ?_
        rintro e w1 ⟨rfl, hb1⟩
        have s3 : w1.cell? ⟨1, 0, none⟩ = some (sval a 1) := (HS.out.below hb1) 1 (by simp)
        unfold sval at s3
        have HB9 := Lib.hid (HB0.out.trans (hb1.mono HB0.out.size))
        obtain ⟨c0, c1, c2, c3, _⟩ := HBX.out.below hb1 HBX.out.lt
        go_wp2
        go_ret
        exact check_sent (by decide) HF.out HB9.out
      · by_cases h3 : 250 < r.ids.length
        · have h3i : 250 < (r.ids.length : Int) := by omega
          have hF : rcpFault r = (((6 : Nat) : Int) + 1, -1) := (if_neg hnf).trans ((if_neg (by omega)).trans (if_pos h3))
          have HF := Lib.hid hF
          clear hF hN hnf h3
          go_enter Tryz.func34, Tryz.ntmps34
          go_wp2_with fail
          refine (HNM.out _).mono ?_
          rintro e w1 ⟨rfl, hb1⟩
          have s3 : w1.cell? ⟨0, 0, none⟩ = some (sval a 6) := (HS.out.below hb1) 6 (by simp)
          unfold sval at s3
          have HB9 := Lib.hid (HB0.out.trans (hb1.mono HB0.out.size))
          obtain ⟨c0, c1, c2, c3, _⟩ := HBX.out.below hb1 HBX.out.lt
          go_wp2
          go_ret
          exact check_sent (by decide) HF.out HB9.out
        · have h3i : ¬ 250 < (r.ids.length : Int) := by omega
          have hF : rcpFault r = idsFault r.len 0 0 r.ids := (if_neg hnf).trans ((if_neg (by omega)).trans (if_neg h3))
          have HF := Lib.hid hF
          have HD : Hid (r.ids.drop r.ids.length = []) := Lib.hid (List.drop_eq_nil_of_le (Nat.le_refl _))
          clear hF hN hnf
          go_enter Tryz.func34, Tryz.ntmps34
          go_wp2_with fail
          refine (HNM.out _).mono ?_
          rintro e w1 ⟨rfl, hb1⟩
          obtain ⟨c0, c1, c2, c3, _⟩ := HBX.out.below hb1 HBX.out.lt
          have HS1 := Lib.hid (HS.out.below hb1)
          have HBX1 := Lib.hid (HBX.out.below hb1 HBX.out.lt)
          have HB1 := Lib.hid (HB0.out.trans (hb1.mono HB0.out.size))
          clear hb1
          go_wp2
          go_loopg [3, 31] r.ids.length (fun gh va vi wr => ∃ (k : Nat) (n : Int), vi = .int .i64 k ∧ va = .int .i64 n ∧ k ≤ r.ids.length ∧ gh = r.ids.length - k ∧ 0 ≤ n ∧ n ≤ 64 * (k : Int) ∧ Hid (idsFault r.len 0 0 r.ids = idsFault r.len k n (r.ids.drop k)) ∧ Below w1.heap.size w1 wr)
          case atStart => exact ⟨0, 0, rfl, rfl, Nat.zero_le _, rfl, by omega, by omega, Lib.hid rfl, Below.refl _ _⟩
          case round =>
            obtain ⟨k, n, rfl, rfl, hk, hgm, hn0, hn1, hI, hB⟩ := hrel
            have HB9 := Lib.hid (HB1.out.trans (hB.mono HB1.out.size))
            by_cases hkl : k < r.ids.length
            · obtain ⟨g, o, rfl, hg, hx⟩ := HC.out (by omega)
              obtain ⟨x0, x1⟩ := hx k hkl
              have y0 := (HB9.out.cell (p := ⟨g, o + k * 2, none⟩) hg).trans x0
              have y1 := (HB9.out.cell (p := ⟨g, o + k * 2 + 1, none⟩) hg).trans x1
              have b1 : (0 : Int) ≤ (k : Int) := by omega
              have b2 : (k : Int) < (r.ids.length : Int) := by omega
              clear hx x0 x1
              by_cases hbad : r.ids[k].2 < 1 ∨ 64 < r.ids[k].2
              · have hA := (Below.refl wr.heap.size wr).alloc (Nat.le_refl _) (.cells #[.int .u32 (r.ids[k].1 : Int), .int .i64 r.ids[k].2] 71)
                have s2 : (wr.alloc (.cells #[.int .u32 (r.ids[k].1 : Int), .int .i64 r.ids[k].2] 71)).cell? ⟨4, 0, none⟩ = some (sval a 2) := ((HS1.out.below hB).below hA) 2 (by simp)
                unfold sval at s2
                have HQ : Hid (CheckPost a r w (.returned (.iface 85 (.pointer (some ⟨wr.heap.size + 1, 0, none⟩)))) ((wr.alloc (.cells #[.int .u32 (r.ids[k].1 : Int), .int .i64 r.ids[k].2] 71)).alloc (.cells #[.int .i64 (k : Int), .iface 265 (.pointer (some (a 2)))] 87))) := Lib.hid (by
                  refine ⟨_, rfl, ?_, ((HB9.out.alloc HB9.out.size _).alloc (by have := HB9.out.size; simp; omega) _)⟩
                  rw [HF.out.trans (hI.out.trans (fault_hit hkl hbad))]
                  have := EV_mk a (wr.alloc (.cells #[.int .u32 (r.ids[k].1 : Int), .int .i64 r.ids[k].2] 71)) 2 (by decide) (k : Int) 87
                  simpa using this)
                clear hA
                clear hI
                rcases hbad with h5 | h5
                · go_wp2
                  go_ret
                  exact HQ.out
                · have h6 : ¬ r.ids[k].2 < 1 := by omega
                  go_wp2
                  go_ret
                  exact HQ.out
              · have HN := Lib.hid (hI.out.trans (fault_next hkl hbad))
                have h5 : ¬ r.ids[k].2 < 1 := by omega
                have h6 : ¬ 64 < r.ids[k].2 := by omega
                have HA := Lib.hid (hB.alloc hB.size (.cells #[.int .u32 (r.ids[k].1 : Int), .int .i64 r.ids[k].2] 71))
                clear hI hbad
                go_wp2
                go_roundg (r.ids.length - (k + 1))
                case measure => omega
                case rel => exact ⟨k + 1, n + r.ids[k].2, by go_num, by go_num, hkl, rfl, by omega, by omega, HN, HA.out⟩
            · obtain rfl : k = r.ids.length := by omega
              have hI2 := HF.out.trans hI.out
              rw [HD.out] at hI2
              obtain ⟨d0, d1, d2, d3, _⟩ := HBX1.out.below hB HBX1.out.lt
              by_cases hn : n = r.len
              · have hni : (n != r.len) = false := by rw [hn]; simp
                have HQ := Lib.hid (hI2.trans (if_pos hn))
                clear hI hI2 hn
                go_wp2
                go_ret
                exact ⟨_, rfl, by rw [HQ.out]; exact EV.none a _, HB9.out⟩
              · have hni : (n != r.len) = true := by simpa using hn
                have HQ := Lib.hid (hI2.trans (if_neg hn))
                have s8 : wr.cell? ⟨5, 0, none⟩ = some (sval a 8) := (HS1.out.below hB) 8 (by simp)
                unfold sval at s8
                clear hI hI2 hn
                go_wp2
                go_ret
                exact check_sent (k := 8) (by decide) HQ.out HB9.out
end Go.Proofs.YtbokckjlgjnnjaaGreatDoor
/- Walk of recipe.Text. Condition: the sentinels and tables that are read lie as named (SomeS, Tabs). -/
namespace Go.Proofs.YtbokckjlgjnnjaaGreatDoor
open Go.RowKit Go.Lib

theorem Join_any (L : List Bytes) (sep : ByteArray) (v : Value) (w : World) (hv : Rd w w.heap.size v (L.map VT)) (hl : (join L sep.data.toList).length ≤ 1099511627776) (hn : L.length ≤ 1099511627776) :
    Calls Tryz.prog 66 #[v, .string sep] w fun e w' => e = .returned (.string (bs (join L sep.data.toList))) ∧ Below w.heap.size w w' := by
  obtain ⟨A, c, rfl, hc, hx⟩ := hv
  rw [List.length_map] at hc
  have hm : (L.map bs).map (fun x => x.data.toList) = L := by
    rw [List.map_map]
    conv => rhs; rw [← List.map_id L]
    exact List.map_congr_left (fun x _ => bs_toList x)
  cases L with
  | nil =>
    exact (Tryz.strings_Join_none A c sep w).mono fun e w' ⟨he, hw⟩ => ⟨he, by rw [hw]; exact Below.refl _ _⟩
  | cons x r =>
    obtain ⟨g, o, rfl, hg, hcell⟩ := hx (by simp)
    have h := Tryz.strings_Join g o c ((x :: r).map bs) sep w (fun j y hy => hcell j _ (by
      rw [List.getElem?_map] at hy ⊢
      cases hj : (x :: r)[j]? with
      | none => rw [hj] at hy; cases hy
      | some z => rw [hj] at hy; simp only [Option.map_some, Option.some.injEq] at hy ⊢; rw [← hy])) hg (by rw [List.length_map]; omega) (by rw [List.length_map]; exact hc) (by rw [hm]; omega)
    rw [hm, List.length_map] at h
    rw [List.length_map]
    exact h
theorem info_stringT : (Tryz.prog.info? 9).map (fun i => (i.zero, i.size, i.bytes)) = some (some (.string ByteArray.empty), 1, 16) := by kernel_rfl
def textRes (r : Rcp) : Bytes := if (rcpFault r).1 = 0 then rcpText r else []
def rcpWords (r : Rcp) (k : Nat) : List Bytes := [r.name, itoa r.len, hex8 r.print] ++ (r.ids.take k).map fun x => idText x.1 x.2
theorem rcpWords_next {r : Rcp} {k : Nat} (h : k < r.ids.length) : (rcpWords r (k + 1)).map VT = (rcpWords r k).map VT ++ [VT (idText r.ids[k].1 r.ids[k].2)] := by
  have e : rcpWords r (k + 1) = rcpWords r k ++ [idText r.ids[k].1 r.ids[k].2] := by
    unfold rcpWords
    rw [List.append_assoc, List.take_succ_eq_append_getElem h, List.map_append]; rfl
  rw [e, List.map_append]; rfl
theorem rcpWords_length {r : Rcp} {k : Nat} (h : k ≤ r.ids.length) : (rcpWords r k).length = k + 3 := by
  unfold rcpWords
  rw [List.length_append, List.length_map, List.length_take, Nat.min_eq_left h]; simp; omega
set_option maxRecDepth 100000 in
set_option maxHeartbeats 2000000 in
theorem RcText_any (a : Nat → Addr) (v : Value) (r : Rcp) (hb : RcpB r) (w : World) (hv : RcpV w w.heap.size v r) (hs : SomeS [1, 2, 3, 6, 8] a w) (ht : Tabs w) :
    Calls Tryz.prog 31 #[v] w fun e w' => ∃ x, e = .returned (.tuple #[VT (textRes r), x]) ∧ EV a x (rcpFault r).1 (rcpFault r).2 w' ∧ Below w.heap.size w w' := by
  obtain ⟨sl, rfl, hrd⟩ := hv
  have hb0 : Below w.heap.size w (w.alloc (.cells #[VT r.name, .int .i64 r.len, .int .u32 (r.print : Int), sl] 36)) := (Below.refl _ w).alloc (Nat.le_refl _) _
  have hbx : Box4 w.heap.size (VT r.name) (.int .i64 r.len) (.int .u32 (r.print : Int)) sl (w.alloc (.cells #[VT r.name, .int .i64 r.len, .int .u32 (r.print : Int), sl] 36)) := Box4.mk' _ _ _ _ _ _
  have CK := Lib.hid (RcCheck_any a (.agg #[VT r.name, .int .i64 r.len, .int .u32 (r.print : Int), sl]) r hb (w.alloc (.cells #[VT r.name, .int .i64 r.len, .int .u32 (r.print : Int), sl] 36)) ⟨sl, rfl, (hrd.keep hb0 (Nat.le_refl _)).more hb0.size⟩ (hs.below hb0))
  have HRD := Lib.hid (hrd.keep hb0 (Nat.le_refl _))
  obtain ⟨A, c, rfl, hcap, _⟩ := hrd.form
  have HB0 := Lib.hid hb0
  have HBX := Lib.hid hbx
  have HT := Lib.hid (ht.below hb0)
  have HB := Lib.hid hb
  clear hrd hs hb0 hbx ht hb
  by_cases h0 : (rcpFault r).1 = 0
  · have h00 := rcpFault_two h0
    obtain ⟨q1, q2, q3, q4, q5⟩ := rcpFault_name h0
    have hlen := HB.out.p
    obtain ⟨i0, hi, hz0, hz1, hz2⟩ := info_parts info_stringT
    have HX := Lib.hid h0
    have H00 := Lib.hid h00
    clear h0 h00 q1 q5
    go_enter Tryz.func31, Tryz.ntmps31
    go_wp2_with fail
    refine CK.out.mono ?_
    rintro e w1 ⟨x, rfl, hev, hb1⟩
    obtain ⟨rfl, _⟩ := hev.nil HX.out
    have HBX1 := Lib.hid (HBX.out.below hb1 HBX.out.lt)
    have HT1 := Lib.hid (HT.out.below hb1)
    have HB1 := Lib.hid (HB0.out.trans (hb1.mono HB0.out.size))
    have HRD1 := Lib.hid (HRD.out.keep hb1 (HB0.out.size))
    clear hb1 hev
    go_wp2
    have hS0 : Below w1.heap.size w1 w1.drew := (Below.refl _ _).drew
    refine region_S (fun w' => Below w1.heap.size w1 w') 9 (by kernel_rfl) (by kernel_rfl) ?_
    refine take_S 0 rfl (by kernel_rfl) (by kernel_rfl) hS0 (fun w' hS => by go_simp; rfl) ?_
    refine take_S 1 rfl (by kernel_rfl) (by kernel_rfl) hS0 (fun w' hS => by have A0 := (HBX1.out.below hS HBX1.out.lt).c0; go_simp; rfl) ?_
    refine take_S 2 rfl (by kernel_rfl) (by kernel_rfl) hS0 (fun w' hS => by go_simp; rfl) ?_
    refine take_S 3 rfl (by kernel_rfl) (by kernel_rfl) hS0 (fun w' hS => by have A1 := (HBX1.out.below hS HBX1.out.lt).c1; go_simp; rfl) ?_
    refine take_S 5 rfl (by kernel_rfl) (by kernel_rfl) hS0 (fun w' hS => by go_simp; rfl) ?_
    refine take_S 6 rfl (by kernel_rfl) (by kernel_rfl) hS0 (fun w' hS => by have A2 := (HBX1.out.below hS HBX1.out.lt).c2; go_simp; rfl) ?_
    refine carry_S 4 rfl (by kernel_rfl) (by decide) (by kernel_rfl) (fun K hK => ?_)
    go_simp
    refine (Itoa_any r.len (by omega) (by omega) _ (HT1.out.below hS0)).mono ?_
    rintro e w2 ⟨rfl, hb2⟩
    have hS2 : Below w1.heap.size w1 w2 := hS0.trans hb2
    refine hK _ _ hS2 ?_
    clear hK K
    try simp only [Act.put, List.getElem_toArray, List.getElem_cons_succ, List.getElem_cons_zero, List.setIfInBounds_toArray, List.set_cons_zero, List.set_cons_succ]
    refine carry_S 7 rfl (by kernel_rfl) (by decide) (by kernel_rfl) (fun K hK => ?_)
    go_simp
    refine (Hex_any r.print hlen _ (HT1.out.below hS2)).mono ?_
    rintro e w3 ⟨rfl, hb3⟩
    have hS3 : Below w1.heap.size w1 w3 := hS2.trans (hb3.mono hS2.size)
    refine hK _ _ hS3 ?_
    clear hK K
    try simp only [Act.put, List.getElem_toArray, List.getElem_cons_succ, List.getElem_cons_zero, List.setIfInBounds_toArray, List.set_cons_zero, List.set_cons_succ]
    refine carry_S 8 rfl (by kernel_rfl) (by decide) (by kernel_rfl) (fun K hK => ?_)
    go_simp
    have hS4 := hS3.alloc hS3.size (.cells #[VT r.name, VT (itoa r.len), VT (hex8 r.print)] 9)
    have ho4 : (w3.alloc (.cells #[VT r.name, VT (itoa r.len), VT (hex8 r.print)] 9)).ownsRow w1.heap.size 9 1 (.slice (some ⟨w3.heap.size, 0, none⟩) 3 3) 3 ((rcpWords r 0).map VT) := World.ownsRow_lit w3 _ 3 hS3.size (by decide) rfl
    refine hK _ _ hS4 (forced_S (by kernel_rfl) ?_)
    clear hK K
    try simp only [Act.put, List.getElem_toArray, List.getElem_cons_succ, List.getElem_cons_zero, List.setIfInBounds_toArray, List.set_cons_zero, List.set_cons_succ]
    simp only [List.drop_succ_cons, List.drop_zero]
    generalize w3.alloc (.cells #[VT r.name, VT (itoa r.len), VT (hex8 r.print)] 9) = w4 at *
    have HS4 := Lib.hid hS4
    obtain ⟨d0, d1, d2, d3, _⟩ := HBX1.out.below hS4 HBX1.out.lt
    clear hS0 hS2 hS3 hb2 hb3 hS4
    go_wp2
    go_loopg [5, 25] r.ids.length (fun gh vs vi wr => ∃ k : Nat, vi = .int .i64 k ∧ k ≤ r.ids.length ∧ gh = r.ids.length - k ∧ wr.ownsRow w1.heap.size 9 1 vs (k + 3) ((rcpWords r k).map VT) ∧ Below w1.heap.size w1 wr)
    case atStart => exact ⟨0, rfl, Nat.zero_le _, rfl, ho4, HS4.out⟩
    case round =>
      obtain ⟨k, rfl, hk, hgm, hrow, hB⟩ := hrel
      by_cases hkl : k < r.ids.length
      · obtain ⟨A', c', hv', _, hcells⟩ := HRD1.out.form
        injection hv' with e1 e2 e3
        subst e1
        obtain ⟨g, o, rfl, hg, hx⟩ := hcells (by omega)
        obtain ⟨x0, x1⟩ := hx k hkl
        have hg1 : g < w1.heap.size := Nat.lt_of_lt_of_le hg HB1.out.size
        have y0 := (hB.cell (p := ⟨g, o + k * 2, none⟩) hg1).trans x0
        have y1 := (hB.cell (p := ⟨g, o + k * 2 + 1, none⟩) hg1).trans x1
        have b1 : (0 : Int) ≤ (k : Int) := by omega
        have b2 : (k : Int) < (r.ids.length : Int) := by omega
        obtain ⟨i1, i2, i3⟩ := HB.out.i r.ids[k] (List.getElem_mem hkl)
        have HW := Lib.hid (rcpWords_next hkl)
        have hA := hB.alloc hB.size (.cells #[.int .u32 (r.ids[k].1 : Int), .int .i64 r.ids[k].2] 71)
        have HTA := Lib.hid (HT1.out.below hA)
        have HROW := Lib.hid (hrow.alloc (.cells #[.int .u32 (r.ids[k].1 : Int), .int .i64 r.ids[k].2] 71))
        clear hx x0 x1 hcells e2 e3
        go_wp2_with fail
        refine (Text_any r.ids[k].1 r.ids[k].2 i1 i2 i3 _ HTA.out).mono ?_
        rintro e w5 ⟨rfl, hb5⟩
        have hA5 := hA.trans (hb5.mono hA.size)
        have ho5 := own_belowI HROW.out hb5
        go_wp2_with (at_builtin; refine wpList_append_own _ rfl _ _ 40 rfl w1.heap.size 9 i0 (.string ByteArray.empty) 1 16 Tryz.underlying40 hi hz0 hz1 hz2 rfl (by decide) _ _ _ rfl (ho5.alloc _) ⟨w5.heap.size, 0, none⟩ 1 1 [.string (bs (idText r.ids[k].1 r.ids[k].2))] rfl rfl (cell_one_new _ _ _) (by simp [Value.oneCell']) (by unfold maxLen; omega) (by omega) (by have := hA5.size; simp; omega) ?_; intro v6 w6 ho6 hg6 _)
        go_roundg (r.ids.length - (k + 1))
        case measure => omega
        case rel => exact ⟨k + 1, by go_num, hkl, rfl, by rw [HW.out]; exact ho6, below_append hA5 hA5.size ho5 hg6⟩
      · obtain rfl : k = r.ids.length := by omega
        have hrdw : Rd wr wr.heap.size _ ((rcpWords r r.ids.length).map VT) := (Rd.own (n := r.ids.length + 3) hrow)
        have hjoin : join (rcpWords r r.ids.length) [32] = rcpText r := by unfold rcpWords; rw [List.take_of_length_le (Nat.le_refl _)]; exact join_text r
        have hjl := rcpText_le HX.out
        have J := Join_any (rcpWords r r.ids.length) ⟨#[32]⟩ _ wr hrdw (by show (join _ [32]).length ≤ _; rw [hjoin]; omega) (by rw [rcpWords_length (Nat.le_refl _)]; omega)
        rw [show (⟨#[32]⟩ : ByteArray).data.toList = [32] from rfl, hjoin] at J
        have HJ := Lib.hid J
        clear hrdw hjoin hjl J
        go_wp2_with fail
        refine HJ.out.mono ?_
        rintro e w5 ⟨rfl, hb5⟩
        go_wp2
        go_ret2
        exact ⟨.nilIface, by unfold textRes; rw [if_pos HX.out]; rfl, by rw [H00.out]; exact EV.none a _, HB1.out.trans ((hB.trans (hb5.mono hB.size)).mono HB1.out.size)⟩
  · have hn0 := h0
    have HX := Lib.hid h0
    clear hn0 h0
    go_enter Tryz.func31, Tryz.ntmps31
    go_wp2_with fail
    refine CK.out.mono ?_
    rintro e w1 ⟨x, rfl, hev, hb1⟩
    obtain ⟨T, p, rfl⟩ := hev.some HX.out
    have HEV := Lib.hid hev
    have HB1 := Lib.hid (HB0.out.trans (hb1.mono HB0.out.size))
    clear hev hb1
    go_wp2
    go_ret2
    exact ⟨_, by unfold textRes; rw [if_neg HX.out]; rfl, HEV.out, HB1.out⟩
end Go.Proofs.YtbokckjlgjnnjaaGreatDoor
/- Walk of recipe.Join. Condition: the sentinels that are read lie as named (SomeS). -/
namespace Go.Proofs.YtbokckjlgjnnjaaGreatDoor
open Go.RowKit Go.Lib

theorem joinMis_next {i : Nat} {ls : List Bytes} {L : IdL} {k : Nat} (h1 : k < ls.length) (h2 : k < L.length) (h : idOf ls[k] = L[k]) : joinMis i (ls.drop k) (L.drop k) = joinMis (i + 1) (ls.drop (k + 1)) (L.drop (k + 1)) := by
  rw [List.drop_eq_getElem_cons h1, List.drop_eq_getElem_cons h2]
  exact if_pos h
theorem joinMis_hit {i : Nat} {ls : List Bytes} {L : IdL} {k : Nat} (h1 : k < ls.length) (h2 : k < L.length) (h : ¬ idOf ls[k] = L[k]) : joinMis i (ls.drop k) (L.drop k) = some i := by
  rw [List.drop_eq_getElem_cons h1, List.drop_eq_getElem_cons h2]
  exact if_neg h
theorem joinMis_nil {i : Nat} {ls : List Bytes} {L : IdL} {k : Nat} (h1 : k = ls.length) : joinMis i (ls.drop k) (L.drop k) = none := by
  rw [List.drop_eq_nil_of_le (by omega)]
  unfold joinMis
  rfl
theorem joinMis_none : ∀ (ls : List Bytes) (L : IdL) (i : Nat), ls.length = L.length → joinMis i ls L = none → ls.map idOf = L
  | [], [], _, _, _ => rfl
  | [], _ :: _, _, h, _ => by simp at h
  | _ :: _, [], _, h, _ => by simp at h
  | p :: ls, x :: r, i, hl, h => by
    unfold joinMis at h
    split at h
    · next e => rw [List.map_cons, e, joinMis_none ls r _ (by simpa using hl) h]
    · cases h
theorem flat_le64 : ∀ (ls : List Bytes), (∀ x ∈ ls.map idOf, x.2 ≤ 64) → ls.flatten.length ≤ 64 * ls.length
  | [], _ => by simp
  | p :: r, h => by
    have h1 := flat_le64 r (fun x hx => h x (List.mem_cons_of_mem _ hx))
    have h2 : ((p.length : Nat) : Int) ≤ 64 := h (idOf p) (List.mem_cons_self ..)
    rw [List.flatten_cons, List.length_append, List.length_cons]
    omega
theorem id_eqs {p : Bytes} {x : Idn} (h : idOf p = x) : (((prOf p : Nat) : Int) == (x.1 : Int)) = true ∧ (((p.length : Nat) : Int) == x.2) = true := by
  subst h; exact ⟨by simp [idOf], by simp [idOf]⟩
theorem id_ne {p : Bytes} {x : Idn} (h : ¬ idOf p = x) : (((prOf p : Nat) : Int) == (x.1 : Int)) = false ∨ ((((prOf p : Nat) : Int) == (x.1 : Int)) = true ∧ (((p.length : Nat) : Int) == x.2) = false) := by
  by_cases h1 : prOf p = x.1
  · refine .inr ⟨by simp [h1], ?_⟩
    rw [beq_eq_false_iff_ne]
    intro e
    exact h (Prod.ext h1 e)
  · refine .inl ?_
    rw [beq_eq_false_iff_ne]; omega
def JoinPost (a : Nat → Addr) (r : Rcp) (ls : List Bytes) (w : World) (e : Ending) (w' : World) : Prop :=
  ∃ x, e = .returned (.tuple #[VT (joinRes r ls).1, x]) ∧ EV a x (joinRes r ls).2.1 (joinRes r ls).2.2 w' ∧ Below w.heap.size w w'
theorem join_bad {a : Nat → Addr} {r : Rcp} {ls : List Bytes} {w w' : World} {c t : Int} {x : Value} (h : joinRes r ls = ([], c, t)) (hx : EV a x c t w') (hb : Below w.heap.size w w') : JoinPost a r ls w (.returned (.tuple #[.string ⟨#[]⟩, x])) w' :=
  ⟨x, by rw [h]; rfl, by rw [h]; exact hx, hb⟩
set_option maxRecDepth 100000 in
set_option maxHeartbeats 2000000 in
theorem RcJoin_any (a : Nat → Addr) (v lv : Value) (r : Rcp) (hb : RcpB r) (ls : List Bytes) (hls : ls.length ≤ 1000000) (hlz : ∀ p ∈ ls, p.length ≤ 1000000) (w : World) (hv : RcpV w w.heap.size v r) (hl : Rd w w.heap.size lv (ls.map VT)) (hs : SomeS [1, 2, 3, 6, 8] a w) :
    Calls Tryz.prog 39 #[v, lv] w (JoinPost a r ls w) := by
  obtain ⟨sl, rfl, hrd⟩ := hv
  have hb0 : Below w.heap.size w (w.alloc (.cells #[VT r.name, .int .i64 r.len, .int .u32 (r.print : Int), sl] 36)) := (Below.refl _ w).alloc (Nat.le_refl _) _
  have hbx : Box4 w.heap.size (VT r.name) (.int .i64 r.len) (.int .u32 (r.print : Int)) sl (w.alloc (.cells #[VT r.name, .int .i64 r.len, .int .u32 (r.print : Int), sl] 36)) := Box4.mk' _ _ _ _ _ _
  have CK := Lib.hid (RcCheck_any a (.agg #[VT r.name, .int .i64 r.len, .int .u32 (r.print : Int), sl]) r hb (w.alloc (.cells #[VT r.name, .int .i64 r.len, .int .u32 (r.print : Int), sl] 36)) ⟨sl, rfl, (hrd.keep hb0 (Nat.le_refl _)).more hb0.size⟩ (hs.below hb0))
  have HRD := Lib.hid (hrd.keep hb0 (Nat.le_refl _))
  have HLD := Lib.hid (hl.below hb0)
  obtain ⟨A, c, rfl, hcap, _⟩ := hrd.form
  obtain ⟨A2, c2, rfl, hcap2, _⟩ := hl
  rw [List.length_map] at hcap2 ⊢
  have HB0 := Lib.hid hb0
  have HBX := Lib.hid hbx
  have HS := Lib.hid (hs.below hb0)
  have HB := Lib.hid hb
  have HLZ := Lib.hid hlz
  clear hrd hs hb0 hbx hb hlz
  by_cases h0 : (rcpFault r).1 = 0
  · obtain ⟨q1, q2, q3, q4, q5⟩ := rcpFault_name h0
    have H6 := Lib.hid (idsFault_lens _ _ 0 0 (show (idsFault r.len 0 0 r.ids).1 = 0 by rw [q5]))
    have HX := Lib.hid h0
    clear q1 q5
    by_cases hln : ls.length = r.ids.length
    · have hlni : ((ls.length : Int) != (r.ids.length : Int)) = false := by rw [hln]; simp
      have HJ : Hid (joinRes r ls = joinEnd r ls (joinMis 0 ls r.ids)) := Lib.hid (by unfold joinRes; rw [if_neg (by rw [h0]; simp), if_neg (by rw [hln]; simp)])
      have HLN := Lib.hid hln
      have hl250 : ls.length ≤ 250 := by omega
      clear h0 hln
      go_enter Tryz.func39, Tryz.ntmps39
      go_wp2_with fail
      refine CK.out.mono ?_
      rintro e w1 ⟨x, rfl, hev, hb1⟩
      obtain ⟨rfl, _⟩ := hev.nil HX.out
      have HBX1 := Lib.hid (HBX.out.below hb1 HBX.out.lt)
      have HS1 := Lib.hid (HS.out.below hb1)
      have HB1 := Lib.hid (HB0.out.trans (hb1.mono HB0.out.size))
      have HRD1 := Lib.hid (HRD.out.keep hb1 (HB0.out.size))
      have HLD1 := Lib.hid (HLD.out.keep (fun p hp => hb1.cell (p := p) (Nat.lt_of_lt_of_le hp HB0.out.size)))
      obtain ⟨d0, d1, d2, d3, _⟩ := HBX1.out
      clear hb1 hev
      go_wp2
      go_loopg [24] ls.length (fun gh vi wr => ∃ k : Nat, vi = .int .i64 k ∧ k ≤ ls.length ∧ gh = ls.length - k ∧ Hid (joinMis 0 ls r.ids = joinMis k (ls.drop k) (r.ids.drop k)) ∧ Below w1.heap.size w1 wr)
      case atStart => exact ⟨0, rfl, Nat.zero_le _, rfl, Lib.hid rfl, Below.refl _ _⟩
      case round =>
        obtain ⟨k, rfl, hk, hgm, hM, hB⟩ := hrel
        have HBXr := Lib.hid (HBX1.out.below hB HBX1.out.lt)
        have HB9 := Lib.hid (HB1.out.trans (hB.mono HB1.out.size))
        obtain ⟨A', c', hv', _, hcells⟩ := HRD1.out.form
        injection hv' with e1 e2 e3
        obtain ⟨A3, c3, hv3, _, hc3⟩ := HLD1.out
        injection hv3 with e4 e5 e6
        subst e1
        subst e4
        by_cases hkl : k < ls.length
        · have hkr : k < r.ids.length := by rw [← HLN.out]; exact hkl
          obtain ⟨g, o, rfl, hg, hx⟩ := hcells (by omega)
          obtain ⟨g2, o2, rfl, hg2, hx2⟩ := hc3 (map_ne hkl)
          obtain ⟨x0, x1⟩ := hx k hkr
          have z0 : w1.cell? ⟨g2, o2 + k, none⟩ = some (.string (bs ls[k])) := hx2 k _ (by simp [hkl])
          have hg1 : g < w1.heap.size := Nat.lt_of_lt_of_le hg HB1.out.size
          have hg21 : g2 < w1.heap.size := Nat.lt_of_lt_of_le hg2 HB1.out.size
          have y0 := (hB.cell (p := ⟨g, o + k * 2, none⟩) hg1).trans x0
          have y1 := (hB.cell (p := ⟨g, o + k * 2 + 1, none⟩) hg1).trans x1
          have z1 := (hB.cell (p := ⟨g2, o2 + k, none⟩) hg21).trans z0
          have b1 : (0 : Int) ≤ (k : Int) := by omega
          have b2 : (k : Int) < (ls.length : Int) := by omega
          have b3 : (k : Int) < (r.ids.length : Int) := by omega
          have hpz : (bs ls[k]).size ≤ maxLen := by
            rw [bs_size]
            have := HLZ.out ls[k] (List.getElem_mem hkl)
            unfold maxLen; omega
          have HBT := Lib.hid (bs_toList ls[k])
          have HBZ := Lib.hid (bs_size ls[k])
          have Y0 := Lib.hid y0
          have Y1 := Lib.hid y1
          have hgr : g < wr.heap.size := Nat.lt_of_lt_of_le hg1 hB.size
          clear hx hx2 x0 x1 z0 y0 y1 hcells hc3 e2 e3 e5 e6
          go_wp2
          have hS0 : Below wr.heap.size wr wr.drew := (Below.refl _ _).drew
          refine region_S (fun w' => Below wr.heap.size wr w') 7 (by kernel_rfl) (by kernel_rfl) ?_
          refine take_S 0 rfl (by kernel_rfl) (by kernel_rfl) hS0 (fun w' hS => by go_simp; rfl) ?_
          refine take_S 2 rfl (by kernel_rfl) (by kernel_rfl) hS0 (fun w' hS => by go_simp; rfl) ?_
          refine take_S 3 rfl (by kernel_rfl) (by kernel_rfl) hS0 (fun w' hS => by have A3 := (HBXr.out.below hS HBXr.out.lt).c3; go_simp; rfl) ?_
          refine take_S 4 rfl (by kernel_rfl) (by kernel_rfl) hS0 (fun w' hS => by go_simp; rfl) ?_
          refine take_S 5 rfl (by kernel_rfl) (by kernel_rfl) hS0 (fun w' hS => by go_simp; rfl) ?_
          refine take_S 6 rfl (by kernel_rfl) (by kernel_rfl) hS0 (fun w' hS => by have B0 := (hS.cell (p := ⟨g, o + k * 2, none⟩) hgr).trans Y0.out; have B1 := (hS.cell (p := ⟨g, o + k * 2 + 1, none⟩) hgr).trans Y1.out; go_simp; rfl) ?_
          refine carry_S 1 rfl (by kernel_rfl) (by decide) (by kernel_rfl) (fun K hK => ?_)
          go_simp
          refine (ID_any (bs ls[k]) _ hpz).mono ?_
          rintro e w4 ⟨rfl, hb4⟩
          have hS4 : Below wr.heap.size wr w4 := hS0.trans hb4
          rw [HBT.out, HBZ.out]
          refine hK _ _ hS4 (forced_S (by kernel_rfl) ?_)
          clear hK K
          try simp only [Act.put, List.getElem_toArray, List.getElem_cons_succ, List.getElem_cons_zero, List.setIfInBounds_toArray, List.set_cons_zero, List.set_cons_succ]
          simp only [List.drop_succ_cons, List.drop_zero]
          have HB4 := Lib.hid (hB.trans (hS4.mono hB.size))
          have HBX4 := Lib.hid (HBXr.out.below hS4 HBXr.out.lt)
          by_cases hid : idOf ls[k] = r.ids[k]
          · obtain ⟨t1, t2⟩ := id_eqs hid
            have HN := Lib.hid (hM.out.trans (joinMis_next hkl hkr hid))
            clear hid hM
            go_wp2
            go_roundg (ls.length - (k + 1))
            case measure => omega
            case rel => exact ⟨k + 1, by go_num, hkl, rfl, HN, HB4.out⟩
          · have hE : joinRes r ls = ([], 9, (k : Int)) := by rw [HJ.out, hM.out, joinMis_hit hkl hkr hid]; rfl
            have s8 : w4.cell? ⟨5, 0, none⟩ = some (sval a 8) := (HS1.out.below HB4.out) 8 (by simp)
            unfold sval at s8
            have HQ : Hid (JoinPost a r ls w (.returned (.tuple #[.string ⟨#[]⟩, .iface 85 (.pointer (some ⟨w4.heap.size, 0, none⟩))])) (w4.alloc (.cells #[.int .i64 (k : Int), .iface 265 (.pointer (some (a 8)))] 87)).drew) := Lib.hid (by
              refine join_bad hE ?_ ((HB1.out.trans (HB4.out.mono HB1.out.size)).alloc (Nat.le_trans HB1.out.size HB4.out.size) _).drew
              have := EV_mk a w4 8 (by decide) (k : Int) 87
              exact this)
            have hid' := id_ne hid
            clear hid hM hE
            rcases hid' with t1 | ⟨t1, t2⟩
            · go_wp2
              go_region
              go_wp2
              go_ret2
              exact HQ.out
            · go_wp2
              go_region
              go_wp2
              go_ret2
              exact HQ.out
        · obtain rfl : k = ls.length := by omega
          have hM0 : joinMis 0 ls r.ids = none := hM.out.trans (joinMis_nil rfl)
          have hmap := joinMis_none _ _ _ HLN.out hM0
          have hfl := flat_le64 ls (fun x hx => (H6.out x (by rw [← hmap]; exact hx)).2)
          have hrdw : Rd wr wr.heap.size _ (ls.map VT) := (HLD1.out.keep (fun p hp => hB.cell (p := p) (Nat.lt_of_lt_of_le hp HB1.out.size))).more HB9.out.size
          have J := Join_any ls ⟨#[]⟩ _ wr hrdw (by show (join _ []).length ≤ _; rw [join_flat]; omega) (by omega)
          rw [show (⟨#[]⟩ : ByteArray).data.toList = [] from rfl, join_flat] at J
          have JJ := Lib.hid J
          have hE : joinRes r ls = if prOf ls.flatten = r.print then (ls.flatten, 0, -1) else ([], 9, -1) := by rw [HJ.out, hM0]; rfl
          have HE := Lib.hid hE
          have HZ : Hid ((bs ls.flatten).size ≤ maxLen) := Lib.hid (by rw [bs_size]; unfold maxLen; omega)
          have HBT := Lib.hid (bs_toList ls.flatten)
          clear hrdw J hE hmap hfl hM0 hM hcells hc3 e2 e3 e5 e6
          rw [List.length_map] at JJ
          go_wp2_with fail
          refine JJ.out.mono ?_
          rintro e w5 ⟨rfl, hb5⟩
          have HB5 := Lib.hid (hB.trans (hb5.mono hB.size))
          have HBX5 := Lib.hid (HBXr.out.below hb5 HBXr.out.lt)
          go_wp2
          have hS0 : Below w5.heap.size w5 w5.drew := (Below.refl _ _).drew
          refine region_S (fun w' => Below w5.heap.size w5 w') 4 (by kernel_rfl) (by kernel_rfl) ?_
          refine take_S 0 rfl (by kernel_rfl) (by kernel_rfl) hS0 (fun w' hS => by go_simp; rfl) ?_
          refine take_S 2 rfl (by kernel_rfl) (by kernel_rfl) hS0 (fun w' hS => by go_simp; rfl) ?_
          refine take_S 3 rfl (by kernel_rfl) (by kernel_rfl) hS0 (fun w' hS => by have A2 := (HBX5.out.below hS HBX5.out.lt).c2; go_simp; rfl) ?_
          refine carry_S 1 rfl (by kernel_rfl) (by decide) (by kernel_rfl) (fun K hK => ?_)
          go_simp
          refine (POf_any (bs ls.flatten) _ HZ.out).mono ?_
          rintro e w6 ⟨rfl, rfl⟩
          rw [HBT.out]
          refine hK _ _ hS0 (forced_S (by kernel_rfl) ?_)
          clear hK K
          try simp only [Act.put, List.getElem_toArray, List.getElem_cons_succ, List.getElem_cons_zero, List.setIfInBounds_toArray, List.set_cons_zero, List.set_cons_succ]
          simp only [List.drop_succ_cons, List.drop_zero]
          by_cases hp : prOf ls.flatten = r.print
          · have hpi : (((prOf ls.flatten : Nat) : Int) != (r.print : Int)) = false := by rw [hp]; simp
            have HE2 := Lib.hid (HE.out.trans (if_pos hp))
            clear hp
            go_wp2
            go_ret2
            exact ⟨.nilIface, by rw [HE2.out]; rfl, by rw [HE2.out]; exact EV.none a _, (HB1.out.trans (HB5.out.mono HB1.out.size)).drew⟩
          · have hpi : (((prOf ls.flatten : Nat) : Int) != (r.print : Int)) = true := by simp; omega
            have HE2 := Lib.hid (HE.out.trans (if_neg hp))
            have s8 : w5.cell? ⟨5, 0, none⟩ = some (sval a 8) := (HS1.out.below HB5.out) 8 (by simp)
            unfold sval at s8
            clear hp
            go_wp2
            go_region
            go_wp2
            go_ret2
            exact join_bad HE2.out (EV.sent a _ 8 (by decide)) (HB1.out.trans (HB5.out.mono HB1.out.size)).drew.drew
    · have hlni : ((ls.length : Int) != (r.ids.length : Int)) = true := by simp; omega
      have HJ : Hid (joinRes r ls = ([], 3, -1)) := Lib.hid (by unfold joinRes; rw [if_neg (by rw [h0]; simp), if_pos hln])
      have HX := Lib.hid h0
      clear h0 hln
      go_enter Tryz.func39, Tryz.ntmps39
      go_wp2_with fail
      refine CK.out.mono ?_
      rintro e w1 ⟨x, rfl, hev, hb1⟩
      obtain ⟨rfl, _⟩ := hev.nil HX.out
      have HBX1 := Lib.hid (HBX.out.below hb1 HBX.out.lt)
      have HB1 := Lib.hid (HB0.out.trans (hb1.mono HB0.out.size))
      obtain ⟨d0, d1, d2, d3, _⟩ := HBX1.out
      have s2 : w1.cell? ⟨4, 0, none⟩ = some (sval a 2) := (HS.out.below hb1) 2 (by simp)
      unfold sval at s2
      clear hb1 hev
      go_wp2
      go_region
      go_wp2
      go_ret2
      exact join_bad HJ.out (EV.sent a _ 2 (by decide)) HB1.out.drew
  · have HJ : Hid (joinRes r ls = ([], rcpFault r)) := Lib.hid (if_pos h0)
    have HX := Lib.hid h0
    clear h0
    go_enter Tryz.func39, Tryz.ntmps39
    go_wp2_with fail
    refine CK.out.mono ?_
    rintro e w1 ⟨x, rfl, hev, hb1⟩
    obtain ⟨T, p, rfl⟩ := hev.some HX.out
    have HEV := Lib.hid hev
    have HB1 := Lib.hid (HB0.out.trans (hb1.mono HB0.out.size))
    clear hev hb1
    go_wp2
    go_ret2
    exact join_bad HJ.out HEV.out HB1.out
end Go.Proofs.YtbokckjlgjnnjaaGreatDoor

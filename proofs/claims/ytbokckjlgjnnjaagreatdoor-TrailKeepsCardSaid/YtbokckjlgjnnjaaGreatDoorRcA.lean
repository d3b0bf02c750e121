/- Walk of the reference's RecipeOf. Conditions: as named. -/
import Derived.Test.YtbokckjlgjnnjaaGreatDoorIds
import Derived.Test.YtbokckjlgjnnjaaGreatDoorTrl2
import Derived.Test.YtbokckjlgjnnjaaGreatDoorCutR
import Derived.Test.YtbokckjlgjnnjaaGreatDoorPrR
import Derived.OwnWalk
namespace Go.Proofs.YtbokckjlgjnnjaaGreatDoor
open Go.RowKit Go.Lib

theorem idsTake {ps : List Bytes} {k : Nat} (hk : k < ps.length) : idRow ((ps.take (k + 1)).map idOf) = idRow ((ps.take k).map idOf) ++ [.int .u32 ((prOf ps[k] : Nat) : Int), .int .i64 (ps[k].length : Int)] := by
  rw [List.take_succ_eq_append_getElem hk, List.map_append, idRow_append]; rfl
set_option maxRecDepth 100000 in
set_option maxHeartbeats 1000000 in
theorem RRecipeOf_ok (n s : ByteArray) (hn : n.size ≤ maxLen) (hN : isName n.data.toList = true) (hs : s.size ≤ 4000) (w : World) :
    Calls Tryz.prog 28 #[.string n, .string s] w fun e w' => ∃ v, e = .returned (.tuple #[v, .int .i64 0]) ∧ RcpV w' w'.heap.size v (rcpOf n.data.toList s.data.toList) ∧ Below w.heap.size w w' := by
  obtain ⟨i0, hi, hz0, hz1, hz2⟩ := info_parts info_idI
  have b1 : ¬ (s.size : Int) > 4000 := by omega
  have HL : Hid ((pieces s.data.toList).length ≤ 4000) := Lib.hid (by have := pieces_length_le s.data.toList; have := size_toList s; omega)
  have HS := Lib.hid (size_toList s)
  have HNN := Lib.hid hN
  clear hN
  go_enter Tryz.func28, Tryz.ntmps28
  go_wp2_with fail
  refine (RIsName_any n hn _).mono ?_
  rintro e w1 ⟨rfl, rfl⟩
  rw [HNN.out]
  go_wp2_with fail
  refine (PiecesOf_any s (by omega) _).mono ?_
  rintro e w1 ⟨v1, rfl, ho1, hb1⟩
  have hw0 : Box4 w.heap.size (.string ⟨#[]⟩) (.int .i64 0) (.int .u32 0) (.slice none 0 0) (w.alloc (.cells #[.string ⟨#[]⟩, .int .i64 0, .int .u32 0, .slice none 0 0] 36)) := Box4.mk' _ _ _ _ _ _
  have hbb : Below w.heap.size w w1 := ((Below.refl _ w).alloc (Nat.le_refl _) _).trans (hb1.mono (by simp))
  have hbx := hw0.below hb1 (by simp)
  obtain ⟨A1, c1, rfl, hc1, hrd⟩ := own_rdI ho1
  have HRD := Lib.hid hrd
  have HBB := Lib.hid hbb
  have hsz : w.heap.size < w1.heap.size := by have := hb1.size; simp at this; omega
  generalize hps : pieces s.data.toList = ps at *
  have hl := HL.out
  clear hrd hbb hw0 ho1 hb1
  go_wp2
  go_loopg [7, 9] ps.length (fun gh vs vi wr => ∃ k : Nat, vi = .int .i64 k ∧ k ≤ ps.length ∧ gh = ps.length - k ∧ wr.ownsRow w1.heap.size 71 2 vs k (idRow ((ps.take k).map idOf)) ∧ Below w1.heap.size w1 wr)
  case atStart => exact ⟨0, rfl, Nat.zero_le _, rfl, World.ownsRow_nil _ _ _ _, Below.refl _ _⟩
  case round =>
    obtain ⟨k, rfl, hk, hgm, hrow, hB⟩ := hrel
    by_cases hkl : k < ps.length
    · obtain ⟨g, rfl, hg1, hg2, hcell⟩ := HRD.out (by omega)
      have hd1 : w1.cell? ⟨g, k, none⟩ = some (.string (bs ps[k])) := hcell k _ (by simp [hkl])
      have d1 : wr.cell? ⟨g, k, none⟩ = some (.string (bs ps[k])) := (hB.cell (p := ⟨g, k, none⟩) hg2).trans hd1
      have b1 : (0 : Int) ≤ (k : Int) := by omega
      have b2 : (k : Int) < (ps.length : Int) := by omega
      have HT := Lib.hid (idsTake hkl)
      have hpz : (bs ps[k]).size ≤ 4000 := by
        rw [bs_size]
        have hm : ps[k] ∈ pieces s.data.toList := by rw [hps]; exact List.getElem_mem hkl
        have := pieces_max _ _ hm
        omega
      have HBT := Lib.hid (bs_toList ps[k])
      have HBZ := Lib.hid (bs_size ps[k])
      clear hd1 hcell
      go_wp2_with fail
      refine (IDOf_any (bs ps[k]) _ (by unfold maxLen; omega)).mono ?_
      rintro e w2 ⟨rfl, hb2⟩
      have ho2 := own_belowI hrow hb2
      have hB2 := hB.trans (hb2.mono hB.size)
      rw [HBT.out, HBZ.out]
      go_wp2_with (at_builtin; refine wpList_append_own _ rfl _ _ 34 rfl w1.heap.size 71 i0 (.agg #[.int .u32 0, .int .i64 0]) 2 16 Tryz.underlying34 hi hz0 hz1 hz2 rfl (by decide) _ _ _ rfl (own_belowI (own_belowI ho2 ((Below.refl _ _).alloc (Nat.le_refl _) _)) ((Below.refl _ _).alloc (Nat.le_refl _) _)) ⟨w2.heap.size + 1, 0, none⟩ 1 1 [.int .u32 ((prOf ps[k] : Nat) : Int), .int .i64 (ps[k].length : Int)] rfl rfl (by have := cell_newI (w2.alloc (.cells #[.int .u32 ((prOf ps[k] : Nat) : Int), .int .i64 (ps[k].length : Int)] 71)) (.int .u32 ((prOf ps[k] : Nat) : Int)) (.int .i64 (ps[k].length : Int)) 71; simpa using this) (by simp [Value.oneCell']) (by unfold maxLen; omega) (by omega) (by have := hB2.size; simp; omega) ?_; intro v5 w5 ho5 hg5 _)
      go_roundg (ps.length - (k + 1))
      case measure => omega
      case rel => exact ⟨k + 1, by go_num, hkl, rfl, by rw [HT.out]; exact ho5, (((hB2.alloc hB2.size _).alloc (by have := hB2.size; simp; omega) _)).grown hg5 (by have := hB2.size; simp; omega) (fun b he => own_ge ho2 he)⟩
    · obtain rfl : k = ps.length := by omega
      have hbxr := hbx.below hB hsz
      have HBX := Lib.hid hbxr
      obtain ⟨c0, c1x, c2, c3, hfz⟩ := hbxr
      have f0 := hfz 0
      have f1 := hfz 1
      have f2 := hfz 2
      have f3 := hfz 3
      obtain ⟨A, c, rfl⟩ := own_formI hrow
      obtain ⟨d0, d1, d2, d3, _⟩ := HBX.out.set (.string n) (.int .i64 (s.size : Int)) (.int .u32 ((prOf s.data.toList : Nat) : Int)) (.slice A ps.length c)
      have HP : Hid (RcpV ((((wr.setCell ⟨w.heap.size, 0, none⟩ (.string n)).setCell ⟨w.heap.size, 1, none⟩ (.int .i64 (s.size : Int))).setCell ⟨w.heap.size, 2, none⟩ (.int .u32 ((prOf s.data.toList : Nat) : Int))).setCell ⟨w.heap.size, 3, none⟩ (.slice A ps.length c)) ((((wr.setCell ⟨w.heap.size, 0, none⟩ (.string n)).setCell ⟨w.heap.size, 1, none⟩ (.int .i64 (s.size : Int))).setCell ⟨w.heap.size, 2, none⟩ (.int .u32 ((prOf s.data.toList : Nat) : Int))).setCell ⟨w.heap.size, 3, none⟩ (.slice A ps.length c)).heap.size
          (.agg #[.string n, .int .i64 (s.size : Int), .int .u32 ((prOf s.data.toList : Nat) : Int), .slice A ps.length c]) (rcpOf n.data.toList s.data.toList)) := Lib.hid (by
        rw [List.take_of_length_le (Nat.le_refl _)] at hrow
        have e1 : (rcpOf n.data.toList s.data.toList).ids = ps.map idOf := by show idsOf _ = _; unfold idsOf; rw [hps]
        refine ⟨_, ?_, by rw [e1]; exact RdI.own (own_set4 hrow hsz _ _ _ _) (by rw [List.length_map])⟩
        rw [show VT (rcpOf n.data.toList s.data.toList).name = .string n by show Value.string (bs n.data.toList) = _; rw [bs_of]]
        rw [show (rcpOf n.data.toList s.data.toList).len = (s.size : Int) by rw [HS.out]; rfl]
        rfl)
      have HB9 := Lib.hid (below_set4 (HBB.out.trans (hB.mono (Nat.le_of_lt hsz))) (Nat.le_refl _) (.string n) (.int .i64 (s.size : Int)) (.int .u32 ((prOf s.data.toList : Nat) : Int)) (.slice A ps.length c))
      clear hfz hrow
      go_wp2_with fail
      refine (PrintOf_any s _ (by unfold maxLen; omega)).mono ?_
      rintro e w2 ⟨rfl, rfl⟩
      go_wp2
      refine bodyPost_ret (v := .tuple #[.agg #[.string n, .int .i64 (s.size : Int), .int .u32 ((prOf s.data.toList : Nat) : Int), .slice A ps.length c], .int .i64 0]) (by simp [results, Tryz.results28, go_sem, d0, d1, d2, d3]) rfl ?_
      exact ⟨_, rfl, HP.out, HB9.out⟩
def ofRes (n s : Bytes) : Int × Rcp := if isName n = false then (4, rcpZero) else if 4000 < s.length then (2, rcpZero) else (0, rcpOf n s)
set_option maxRecDepth 100000 in
theorem RRecipeOf_any (n s : ByteArray) (hn : n.size ≤ maxLen) (w : World) :
    Calls Tryz.prog 28 #[.string n, .string s] w fun e w' => ∃ v, e = .returned (.tuple #[v, .int .i64 (ofRes n.data.toList s.data.toList).1]) ∧ RcpV w' w'.heap.size v (ofRes n.data.toList s.data.toList).2 ∧ Below w.heap.size w w' := by
  have hz := size_toList s
  have hb0 : Below w.heap.size w (w.alloc (.cells #[.string ⟨#[]⟩, .int .i64 0, .int .u32 0, .slice none 0 0] 36)) := (Below.refl _ w).alloc (Nat.le_refl _) _
  cases hN : isName n.data.toList with
  | false =>
    have HE : Hid (ofRes n.data.toList s.data.toList = (4, rcpZero)) := Lib.hid (if_pos hN)
    have HN := Lib.hid hN
    clear hN hz
    go_enter Tryz.func28, Tryz.ntmps28
    go_wp2_with fail
    refine (RIsName_any n hn _).mono ?_
    rintro e w1 ⟨rfl, rfl⟩
    rw [HN.out]
    go_wp2
    refine bodyPost_ret (v := .tuple #[zeroV, .int .i64 4]) (by simp [results, Tryz.results28, go_sem, zeroV]) rfl ?_
    exact ⟨zeroV, by rw [HE.out], by rw [HE.out]; exact zero_rcp _ _, hb0⟩
  | true =>
    by_cases h4 : s.size ≤ 4000
    · have e1 : ofRes n.data.toList s.data.toList = (0, rcpOf n.data.toList s.data.toList) := by unfold ofRes; rw [if_neg (by rw [hN]; simp), if_neg (by omega)]
      rw [e1]
      exact RRecipeOf_ok n s hn hN h4 w
    · have h4i : (s.size : Int) > 4000 := by omega
      have HE : Hid (ofRes n.data.toList s.data.toList = (2, rcpZero)) := Lib.hid (by unfold ofRes; rw [if_neg (by rw [hN]; simp), if_pos (by omega)])
      have HN := Lib.hid hN
      clear hN hz h4
      go_enter Tryz.func28, Tryz.ntmps28
      go_wp2_with fail
      refine (RIsName_any n hn _).mono ?_
      rintro e w1 ⟨rfl, rfl⟩
      rw [HN.out]
      go_wp2
      refine bodyPost_ret (v := .tuple #[zeroV, .int .i64 2]) (by simp [results, Tryz.results28, go_sem, zeroV]) rfl ?_
      exact ⟨zeroV, by rw [HE.out], by rw [HE.out]; exact zero_rcp _ _, hb0⟩
end Go.Proofs.YtbokckjlgjnnjaaGreatDoor

/- Walks of the reference's SameIDs, SameRecipe at two of one content. No conditions but bounds. -/
import Derived.Test.YtpanoplcamdnkaaGreatDoorIds1
namespace Go.Proofs.YtpanoplcamdnkaaGreatDoor
open Go.RowKit Go.Lib

set_option maxRecDepth 100000 in
set_option maxHeartbeats 1000000 in
theorem SameIDs_same (va vb : Value) (L : IdL) (hL : L.length ≤ 1000000) (w : World) (ha : RdI w w.heap.size va L) (hb : RdI w w.heap.size vb L) :
    Calls Tryz.prog 102 #[va, vb] w fun e w' => e = .returned (.bool true) ∧ Below w.heap.size w w' := by
  obtain ⟨A, c, rfl, _, hca⟩ := ha.form
  obtain ⟨A', c', rfl, _, hcb⟩ := hb.form
  have HA := Lib.hid hca
  have HB := Lib.hid hcb
  have hll : ((L.length : Int) != (L.length : Int)) = false := by simp
  clear ha hb hca hcb
  go_enter Tryz.func102, Tryz.ntmps102
  go_wp2
  go_loopg [5] L.length (fun gh vi wr => ∃ k : Nat, vi = .int .i64 k ∧ k ≤ L.length ∧ gh = L.length - k ∧ Below w.heap.size w wr)
  case atStart => exact ⟨0, rfl, Nat.zero_le _, rfl, Below.refl _ _⟩
  case round =>
    obtain ⟨k, rfl, hk, hgm, hB⟩ := hrel
    by_cases hkl : k < L.length
    · obtain ⟨g, o, rfl, hg, hx⟩ := HA.out (by omega)
      obtain ⟨g', o', rfl, hg', hx'⟩ := HB.out (by omega)
      obtain ⟨x0, x1⟩ := hx k hkl
      obtain ⟨y0, y1⟩ := hx' k hkl
      have X0 := Lib.hid ((hB.cell (p := ⟨g, o + k * 2, none⟩) hg).trans x0)
      have X1 := Lib.hid ((hB.cell (p := ⟨g, o + k * 2 + 1, none⟩) hg).trans x1)
      have Y0 := Lib.hid ((hB.cell (p := ⟨g', o' + k * 2, none⟩) hg').trans y0)
      have Y1 := Lib.hid ((hB.cell (p := ⟨g', o' + k * 2 + 1, none⟩) hg').trans y1)
      have hgr : g < wr.heap.size := Nat.lt_of_lt_of_le hg hB.size
      have hgr' : g' < wr.heap.size := Nat.lt_of_lt_of_le hg' hB.size
      have b1 : (0 : Int) ≤ (k : Int) := by omega
      have b2 : (k : Int) < (L.length : Int) := by omega
      clear hx hx' x0 x1 y0 y1
      go_wp2
      have hS0 : Below wr.heap.size wr wr.drew := (Below.refl _ _).drew
      refine region_S (fun w' => Below wr.heap.size wr w') 8 (by kernel_rfl) (by kernel_rfl) ?_
      refine take_S 0 rfl (by kernel_rfl) (by kernel_rfl) hS0 (fun w' hS => by go_simp; rfl) ?_
      refine take_S 1 rfl (by kernel_rfl) (by kernel_rfl) hS0 (fun w' hS => by go_simp; rfl) ?_
      refine take_S 2 rfl (by kernel_rfl) (by kernel_rfl) hS0 (fun w' hS => by go_simp; rfl) ?_
      refine take_S 3 rfl (by kernel_rfl) (by kernel_rfl) hS0 (fun w' hS => by have B0 := (hS.cell (p := ⟨g, o + k * 2, none⟩) hgr).trans X0.out; have B1 := (hS.cell (p := ⟨g, o + k * 2 + 1, none⟩) hgr).trans X1.out; go_simp; rfl) ?_
      refine take_S 4 rfl (by kernel_rfl) (by kernel_rfl) hS0 (fun w' hS => by go_simp; rfl) ?_
      refine take_S 5 rfl (by kernel_rfl) (by kernel_rfl) hS0 (fun w' hS => by go_simp; rfl) ?_
      refine take_S 6 rfl (by kernel_rfl) (by kernel_rfl) hS0 (fun w' hS => by go_simp; rfl) ?_
      refine take_S 7 rfl (by kernel_rfl) (by kernel_rfl) hS0 (fun w' hS => by have B0 := (hS.cell (p := ⟨g', o' + k * 2, none⟩) hgr').trans Y0.out; have B1 := (hS.cell (p := ⟨g', o' + k * 2 + 1, none⟩) hgr').trans Y1.out; go_simp; rfl) (forced_S (by kernel_rfl) ?_)
      try simp only [Act.put, List.getElem_toArray, List.getElem_cons_succ, List.getElem_cons_zero, List.setIfInBounds_toArray, List.set_cons_zero, List.set_cons_succ]
      simp only [List.drop_succ_cons, List.drop_zero]
      go_wp2
      go_roundg (L.length - (k + 1))
      case measure => omega
      case rel => exact ⟨k + 1, by go_num, hkl, rfl, hB.drew⟩
    · obtain rfl : k = L.length := by omega
      go_wp2
      go_ret
      exact ⟨rfl, hB⟩
set_option maxRecDepth 100000 in
set_option maxHeartbeats 1000000 in
theorem SameRecipe_same (va vb : Value) (r : Rcp) (hL : r.ids.length ≤ 1000000) (w : World) (ha : RcpV w w.heap.size va r) (hb : RcpV w w.heap.size vb r) :
    Calls Tryz.prog 104 #[va, vb] w fun e w' => e = .returned (.bool true) ∧ Below w.heap.size w w' := by
  obtain ⟨sa, rfl, hra⟩ := ha
  obtain ⟨sb, rfl, hrb⟩ := hb
  have hb0 : Below w.heap.size w ((w.alloc (.cells #[VT r.name, .int .i64 r.len, .int .u32 (r.print : Int), sa] 65)).alloc (.cells #[VT r.name, .int .i64 r.len, .int .u32 (r.print : Int), sb] 65)) := ((Below.refl _ w).alloc (Nat.le_refl _) _).alloc (by simp) _
  have h1 : Box4 w.heap.size (VT r.name) (.int .i64 r.len) (.int .u32 (r.print : Int)) sa ((w.alloc (.cells #[VT r.name, .int .i64 r.len, .int .u32 (r.print : Int), sa] 65)).alloc (.cells #[VT r.name, .int .i64 r.len, .int .u32 (r.print : Int), sb] 65)) := (Box4.mk' w _ _ _ _ _).below ((Below.refl (w.alloc _).heap.size (w.alloc _)).alloc (Nat.le_refl _) _) (by simp)
  have h2 : Box4 (w.heap.size + 1) (VT r.name) (.int .i64 r.len) (.int .u32 (r.print : Int)) sb ((w.alloc (.cells #[VT r.name, .int .i64 r.len, .int .u32 (r.print : Int), sa] 65)).alloc (.cells #[VT r.name, .int .i64 r.len, .int .u32 (r.print : Int), sb] 65)) := by
    have := Box4.mk' (w.alloc (.cells #[VT r.name, .int .i64 r.len, .int .u32 (r.print : Int), sa] 65)) (VT r.name) (.int .i64 r.len) (.int .u32 (r.print : Int)) sb 65
    simpa using this
  have S := Lib.hid (SameIDs_same sa sb r.ids hL ((w.alloc (.cells #[VT r.name, .int .i64 r.len, .int .u32 (r.print : Int), sa] 65)).alloc (.cells #[VT r.name, .int .i64 r.len, .int .u32 (r.print : Int), sb] 65)) ((hra.keep hb0 (Nat.le_refl _)).more hb0.size) ((hrb.keep hb0 (Nat.le_refl _)).more hb0.size))
  obtain ⟨A, c, rfl, _, _⟩ := hra.form
  obtain ⟨A', c', rfl, _, _⟩ := hrb.form
  obtain ⟨c0, c1, c2, c3, _⟩ := h1
  obtain ⟨d0, d1, d2, d3, _⟩ := h2
  have e0 : ((bs r.name).toList == (bs r.name).toList) = true := by simp
  have e1 : (r.len == r.len) = true := by simp
  have e2 : ((r.print : Int) == (r.print : Int)) = true := by simp
  have HB0 := Lib.hid hb0
  clear hra hrb hb0
  go_enter Tryz.func104, Tryz.ntmps104
  go_wp2_with fail
  refine S.out.mono ?_
  rintro e w3 ⟨rfl, hb3⟩
  go_wp2
  go_ret
  exact ⟨rfl, HB0.out.trans (hb3.mono HB0.out.size)⟩
end Go.Proofs.YtpanoplcamdnkaaGreatDoor

/- Walk of the reference's Table.Clients. No conditions but bounds. -/
import Derived.Test.YtpacalklcdlhoaaDoorRefH
namespace Go.Proofs.YtpacalklcdlhoaaDoor
open Go.RowKit Go.Lib

theorem info_stringG : (Tryd.prog.info? 9).map (fun i => (i.zero, i.size, i.bytes)) = some (some (.string ByteArray.empty), 1, 16) := by kernel_rfl
theorem take_clients {L : Tb} {k : Nat} (hk : k < L.length) : ((L.map (·.1)).take (k + 1)).map VT = ((L.map (·.1)).take k).map VT ++ [VT L[k].1] := by
  have hk' : k < (L.map (·.1)).length := by rw [List.length_map]; exact hk
  rw [List.take_succ_eq_append_getElem hk', List.map_append]
  simp
set_option maxRecDepth 100000 in
set_option maxHeartbeats 1000000 in
theorem RTClients_any (rb base : Nat) (v : Value) (L : Tb) (hL : L.length ≤ 2 ^ 30) (w : World) (h : RTab rb base v L w) :
    Calls Tryd.prog 45 #[.pointer (some ⟨rb, 0, none⟩)] w fun e w' => ∃ vv, e = .returned vv ∧ w'.ownsRow w.heap.size 9 1 vv L.length ((L.map (·.1)).map VT) ∧ Below w.heap.size w w' := by
  obtain ⟨i0, hi, hz0, hz1, hz2⟩ := info_parts info_stringG
  have HR := Lib.hid h
  obtain ⟨A, c, hv, _⟩ := h.form
  subst hv
  clear h
  go_enter Tryd.func45, Tryd.ntmps45
  go_wp2
  go_loopg [3, 4] L.length (fun gh vs vi wr => ∃ k : Nat, vi = .int .i64 k ∧ k ≤ L.length ∧ gh = L.length - k ∧ wr.ownsRow w.heap.size 9 1 vs k (((L.map (·.1)).take k).map VT) ∧ Below w.heap.size w wr)
  case atStart => exact ⟨0, rfl, Nat.zero_le _, rfl, World.ownsRow_nil _ _ _ _, Below.refl _ _⟩
  case round =>
    obtain ⟨k, rfl, hk, hgm, hrow, hB⟩ := hrel
    have HRr := Lib.hid (HR.out.below hB)
    have c0 := HRr.out.cell
    by_cases hkl : k < L.length
    · obtain ⟨A', c', hv', hc⟩ := HRr.out.form
      injection hv' with e1 e2 e3
      subst e1
      obtain ⟨g, rfl, hcells⟩ := hc (by omega)
      obtain ⟨c1, _, _⟩ := hcells k hkl
      have b1 : (0 : Int) ≤ (k : Int) := by omega
      have b2 : (k : Int) < (L.length : Int) := by omega
      have HT := Lib.hid (take_clients hkl)
      clear hcells hc e2 e3
      go_wp2_with (at_builtin; refine wpList_append_own _ rfl _ _ 37 rfl w.heap.size 9 i0 (.string ByteArray.empty) 1 16 Tryd.underlying37 hi hz0 hz1 hz2 rfl (by decide) _ _ _ rfl (hrow.alloc _) ⟨wr.heap.size, 0, none⟩ 1 1 [.string (bs L[k].1)] rfl rfl (cell_one_new _ _ _) (by simp [Value.oneCell']) (by unfold maxLen; omega) (by omega) (by have := hB.size; simp; omega) ?_; intro v5 w5 ho5 hg5 _)
      go_roundg (L.length - (k + 1))
      case measure => omega
      case rel => exact ⟨k + 1, by go_num, hkl, rfl, by rw [HT.out]; exact ho5, below_append hB hB.size hrow hg5⟩
    · obtain rfl : k = L.length := by omega
      have hq : (L.map (·.1)).take L.length = L.map (·.1) := List.take_of_length_le (by simp)
      rw [hq] at hrow
      clear hq
      go_wp2
      go_ret
      exact ⟨_, rfl, hrow, hB⟩
end Go.Proofs.YtpacalklcdlhoaaDoor

/- Walks of the reference's CutsOf and of the law's closed fact 'cutted'. Condition: at most 2^40 bytes. -/
import Derived.Test.YtanondjaooocgaaDoorCutS
namespace Go.Proofs.YtanondjaooocgaaDoor
open Go.RowKit Go.Lib

def offs (P : List Bytes) (k : Nat) : Nat := ((P.take k).flatten).length
theorem offs_succ (P : List Bytes) (k : Nat) (h : k < P.length) : offs P (k + 1) = offs P k + P[k].length := by
  unfold offs
  rw [List.take_succ_eq_append_getElem h, List.flatten_append, List.length_append]; simp
theorem offs_le (P : List Bytes) (k : Nat) : offs P k ≤ P.flatten.length := by
  unfold offs
  conv => rhs; rw [← List.take_append_drop k P, List.flatten_append, List.length_append]
  omega
theorem cuts_take_succ (s : Bytes) (k : Nat) (h : k < (pieces s).length) : (cuts s).take (k + 1) = (cuts s).take k ++ [offs (pieces s) (k + 1)] := by
  have hc : k < (cuts s).length := by rw [cuts_length]; exact h
  rw [List.take_succ_eq_append_getElem hc]
  have := cuts_get s k h
  rw [List.getElem?_eq_getElem hc] at this
  injection this with this
  rw [this]; rfl

set_option maxRecDepth 100000 in
set_option maxHeartbeats 2000000 in
theorem CutsOf_any (s : ByteArray) (hs : s.size ≤ 2 ^ 40) (w : World) :
    Calls Tryd.prog 10 #[.string s] w fun e W' => ∃ v, e = .returned v ∧ W'.ownsRow w.heap.size 3 1 v (cuts s.data.toList).length ((cuts s.data.toList).map VI) ∧ Below w.heap.size w W' := by
  obtain ⟨i0, hi, hz0, hz1, hz2⟩ := info_parts info_int
  have hlen := pieces_length_le s.data.toList
  have hfl := pieces_flatten s.data.toList
  have hmx := pieces_max s.data.toList
  have htk := cuts_take_succ s.data.toList
  have hcl := cuts_length s.data.toList
  rw [← size_toList] at hlen
  have hof := offs_le (pieces s.data.toList)
  rw [hfl, ← size_toList] at hof
  generalize hP : pieces s.data.toList = P at *
  generalize hC : cuts s.data.toList = C at *
  have HT := Lib.hid htk
  have HO := Lib.hid hof
  have HM := Lib.hid hmx
  have HC := Lib.hid hcl
  have HPP := Lib.hid hP
  clear htk hof hmx hcl hfl hC
  go_enter Tryd.func10, Tryd.ntmps10
  go_wp2_with (go_at_call 21; refine (PiecesOf_any s hs _).mono ?_; rintro e W1 ⟨v1, rfl, hr1, hb1⟩)
  rw [HPP.out] at hr1
  have hrd := Rd.own hr1
  obtain ⟨A1, c1, rfl, _, hrd1⟩ := hrd
  have hbs := hb1.size
  rw [List.length_map]
  go_loopw [3, 4, 6] (fun vo vn vi wr => ∃ k : Nat, vn = .int .i64 (offs P k) ∧ vi = .int .i64 k ∧ k ≤ P.length ∧ wr.ownsRow W1.heap.size 3 1 vo k ((C.take k).map VI) ∧ Below W1.heap.size W1 wr)
    (fun _ _ vi _ => P.length - (intOf vi).toNat)
  case atStart => exact ⟨0, rfl, rfl, Nat.zero_le _, World.ownsRow_nil _ _ _ _, Below.refl _ _⟩
  case round =>
    obtain ⟨k, rfl, rfl, hk, hrow, hB⟩ := hrel
    by_cases hlt : k < P.length
    · obtain ⟨g, o, rfl, hg, hc⟩ := hrd1 (map_ne hlt)
      have hcell : wr.cell? ⟨g, o + k, none⟩ = some (.string (bs P[k])) := (hB.cell (p := ⟨g, o + k, none⟩) hg).trans (hc k _ (by simp [hlt]))
      have hm := HM.out P[k] (List.getElem_mem hlt)
      have hsz := bs_size P[k]
      have ho1 := HO.out k
      have ho2 := HO.out (k + 1)
      have hos := offs_succ P k hlt
      have hq : ((bs P[k]).size : Int) = (P[k].length : Int) := by rw [hsz]
      have hsz2 : (bs P[k]).size ≤ 64 := by omega
      have HS := Lib.hid hos
      have HQ := Lib.hid hsz
      clear hos hsz hq hc
      go_wp2_with (at_builtin; refine wpList_append_own _ rfl _ _ 30 rfl W1.heap.size 3 i0 (.int .i64 0) 1 8 Tryd.underlying30 hi hz0 hz1 hz2 rfl (by decide) _ _ _ rfl (hrow.alloc _) ⟨wr.heap.size, 0, none⟩ 1 1 [.int .i64 ((offs P k : Int) + (bs P[k]).size)] rfl rfl (cell_one_new _ _ _) (by simp [Value.oneCell']) (by unfold maxLen; omega) (by omega) (by have := hB.size; simp; omega) ?_; intro v' w1 hown' hgrow _)
      go_roundw
      case rel =>
        refine ⟨k + 1, by rw [HS.out, HQ.out, Int.natCast_add], by go_num, hlt, ?_, below_append hB hB.size hrow hgrow⟩
        rw [HT.out k hlt, List.map_append, HS.out]
        rw [HQ.out] at hown'
        exact hown'
      case measure => simp [intOf]; omega
    · obtain rfl : k = P.length := by omega
      go_wp2
      go_ret
      refine ⟨_, rfl, ?_, hb1.trans (hB.mono hbs)⟩
      rw [HC.out]
      have := hrow.mono hbs
      rwa [List.take_of_length_le (Nat.le_of_eq HC.out)] at this
end Go.Proofs.YtanondjaooocgaaDoor

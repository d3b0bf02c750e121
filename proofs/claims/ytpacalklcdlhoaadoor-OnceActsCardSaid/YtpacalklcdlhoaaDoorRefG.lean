/- The reference's Table of answers: what it is in memory; walks of find, Ask, Clients. No conditions but bounds. -/
import Derived.Test.YtpacalklcdlhoaaDoorPlainX
import Derived.Test.YtpacalklcdlhoaaDoorRefY
import Derived.Test.YtpacalklcdlhoaaDoorOnf
namespace Go.Proofs.YtpacalklcdlhoaaDoor
open Go.RowKit Go.Lib

def lastCells (x : TbB × Int × TbB) : List Value := [VT x.1, .int .i64 x.2.1, VT x.2.2]
def lastRow (L : Tb) : List Value := L.flatMap lastCells
theorem lastRow_length (L : Tb) : (lastRow L).length = L.length * 3 := by
  induction L with
  | nil => rfl
  | cons o l ih => rw [show lastRow (o :: l) = lastCells o ++ lastRow l from rfl, List.length_append, ih, show (lastCells o).length = 3 from rfl, List.length_cons]; omega
theorem lastRow_append (a b : Tb) : lastRow (a ++ b) = lastRow a ++ lastRow b := List.flatMap_append
theorem lastRow_at (l : Tb) (k : Nat) (h : k < l.length) (j : Nat) (hj : j < 3) : (lastRow l)[k * 3 + j]? = (lastCells l[k])[j]? := by
  conv => lhs; rw [← List.take_append_drop k l, List.drop_eq_getElem_cons h, lastRow_append]
  have hl : (lastRow (l.take k)).length = k * 3 := by rw [lastRow_length, List.length_take, Nat.min_eq_left (by omega)]
  rw [List.getElem?_append_right (by omega), hl, Nat.add_sub_cancel_left]
  rw [show lastRow (l[k] :: l.drop (k + 1)) = lastCells l[k] ++ lastRow (l.drop (k + 1)) from rfl, List.getElem?_append_left (by simp [lastCells]; exact hj)]
/-- the reference's table in block rb, its list in the slice v, a row from base on -/
structure RTab (rb base : Nat) (v : Value) (L : Tb) (w : World) : Prop where
  row : w.heap[rb]? = some (.cells #[v] 80 (0, 0))
  own : w.ownsRow base 121 3 v L.length (lastRow L)
  ne : ∀ b, v.ownBlock = some b → b ≠ rb
theorem RTab.lt {rb base : Nat} {v : Value} {L : Tb} {w : World} (h : RTab rb base v L w) : rb < w.heap.size := (Array.getElem?_eq_some_iff.1 h.row).1
theorem RTab.cell {rb base : Nat} {v : Value} {L : Tb} {w : World} (h : RTab rb base v L w) : w.cell? ⟨rb, 0, none⟩ = some v := by rw [cell_of_row w rb 0 _ _ _ h.row]; rfl
theorem own_belowG {w w' : World} {base n size : Nat} {e : TypeId} {v : Value} {xs : List Value} (h : w.ownsRow base e size v n xs) (hb : Below w.heap.size w w') : w'.ownsRow base e size v n xs := by
  refine ⟨h.1, ?_⟩
  rcases h.2 with h | ⟨g, cap, cur, hv, hg, hh, h3⟩
  · exact .inl h
  · exact .inr ⟨g, cap, cur, hv, hg, (hb.block g (Array.getElem?_eq_some_iff.1 hh).1).trans hh, h3⟩
theorem RTab.below {rb base : Nat} {v : Value} {L : Tb} {w w' : World} (h : RTab rb base v L w) (hb : Below w.heap.size w w') : RTab rb base v L w' := ⟨(hb.block rb h.lt).trans h.row, own_belowG h.own hb, h.ne⟩
theorem RTab.form {rb base : Nat} {v : Value} {L : Tb} {w : World} (h : RTab rb base v L w) : ∃ A c, v = .slice A L.length c ∧ (0 < L.length → ∃ g, A = some ⟨g, 0, none⟩ ∧ ∀ k (hk : k < L.length),
    w.cell? ⟨g, k * 3, none⟩ = some (VT L[k].1) ∧ w.cell? ⟨g, k * 3 + 1, none⟩ = some (.int .i64 L[k].2.1) ∧ w.cell? ⟨g, k * 3 + 2, none⟩ = some (VT L[k].2.2)) := by
  rcases h.own.2 with ⟨h1, h0⟩ | ⟨g, cap, cur, h1, _⟩
  · exact ⟨none, 0, by rw [h1, h0], fun h => absurd h (by omega)⟩
  · refine ⟨_, cap, h1, fun _ => ⟨g, rfl, fun k hk => ?_⟩⟩
    have ho := h.own
    rw [h1] at ho
    have c0 := ho.cellAt (k * 3 + 0) (by omega)
    have c1 := ho.cellAt (k * 3 + 1) (by omega)
    have c2 := ho.cellAt (k * 3 + 2) (by omega)
    rw [lastRow_at L k hk _ (by decide)] at c0 c1 c2
    exact ⟨c0, c1, c2⟩
def FindPost (L : Tb) (t : TbB) (w : World) (e : Ending) (w' : World) : Prop :=
  w = w' ∧ ((∃ (k : Nat) (hk : k < L.length), L[k].1 = t ∧ (∀ j (hj : j < L.length), j < k → L[j].1 ≠ t) ∧ e = .returned (.int .i64 k)) ∨ ((∀ j (hj : j < L.length), L[j].1 ≠ t) ∧ e = .returned (.int .i64 (-1))))
set_option maxRecDepth 100000 in
set_option maxHeartbeats 1000000 in
theorem RFind_any (rb base : Nat) (v : Value) (L : Tb) (hL : L.length ≤ 2 ^ 40) (t : ByteArray) (w : World) (h : RTab rb base v L w) :
    Calls Tryd.prog 72 #[.pointer (some ⟨rb, 0, none⟩), .string t] w (FindPost L t.data.toList w) := by
  have c0 := h.cell
  obtain ⟨A, c, rfl, hc⟩ := h.form
  have HC := Lib.hid hc
  clear hc h
  go_enter Tryd.func72, Tryd.ntmps72
  go_wp2
  go_loop [5] (fun vi => ∃ k : Nat, vi = .int .i64 k ∧ k ≤ L.length ∧ Hid (∀ j (hj : j < L.length), j < k → L[j].1 ≠ t.data.toList)) (fun vi => L.length - (intOf vi).toNat)
  case atStart => exact ⟨0, rfl, Nat.zero_le _, fun j _ h => absurd h (Nat.not_lt_zero _)⟩
  case round =>
    obtain ⟨k, rfl, hk, hno⟩ := hrel
    by_cases hkl : k < L.length
    · obtain ⟨g, rfl, hcells⟩ := HC.out (by omega)
      obtain ⟨c1, _, _⟩ := hcells k hkl
      have b1 : (0 : Int) ≤ (k : Int) := by omega
      have b2 : (k : Int) < (L.length : Int) := by omega
      have hbt : bs t.data.toList = t := by apply ba_ext; rw [bs_toList]
      have hcmp : ((bs L[k].1).toList == t.toList) = decide (L[k].1 = t.data.toList) := by rw [← bs_beq, hbt]
      by_cases he : L[k].1 = t.data.toList
      · have hei : ((bs L[k].1).toList == t.toList) = true := by rw [hcmp]; exact decide_eq_true he
        have HP : Hid (FindPost L t.data.toList w (.returned (.int .i64 k)) w) := Lib.hid ⟨rfl, .inl ⟨k, hkl, he, hno.out, rfl⟩⟩
        clear hcells hcmp he hbt hno
        go_wp2
        go_ret
        exact HP.out
      · have hei : ((bs L[k].1).toList == t.toList) = false := by rw [hcmp]; exact decide_eq_false he
        have HN : Hid (∀ j (hj : j < L.length), j < k + 1 → L[j].1 ≠ t.data.toList) := Lib.hid fun j hj h => by
          rcases Nat.lt_or_ge j k with h1 | h1
          · exact hno.out j hj h1
          · obtain rfl : j = k := by omega
            exact he
        clear hcells hcmp he hbt hno
        go_wp2
        go_round
        case rel => exact ⟨k + 1, by go_num, hkl, HN⟩
        case measure => simp [intOf]; omega
    · obtain rfl : k = L.length := by omega
      have HP : Hid (FindPost L t.data.toList w (.returned (.int .i64 (-1))) w) := Lib.hid ⟨rfl, .inr ⟨fun j hj => hno.out j hj hj, rfl⟩⟩
      go_wp2
      go_ret
      exact HP.out
end Go.Proofs.YtpacalklcdlhoaaDoor

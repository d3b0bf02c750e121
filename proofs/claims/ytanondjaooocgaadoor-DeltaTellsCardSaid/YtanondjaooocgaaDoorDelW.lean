/- Walks of slices.Index at texts and of delta.Size; rows of struct cells. Conditions: lengths below 2^40. -/
import Derived.Test.YtanondjaooocgaaDoorPlainD
import Derived.Test.YtanondjaooocgaaDoorCutB
import Derived.Test.YtanondjaooocgaaDoorRead
namespace Go.Proofs.YtanondjaooocgaaDoor
open Go.RowKit Go.Lib

def idxI (l : List Bytes) (p : Bytes) : Int := match fi l p with | some k => k | none => -1

set_option maxRecDepth 100000 in
set_option maxHeartbeats 1000000 in
theorem Index_any (v : Value) (p : Bytes) (xs : List Bytes) (B : Nat) (w : World) (ha : Rd w B v (xs.map VS)) (hx : xs.length ≤ 2 ^ 40) :
    Calls Tryd.prog 20 #[v, .string (bs p)] w fun e w' => e = .returned (.int .i64 (idxI xs p)) ∧ w = w' := by
  obtain ⟨A, c, rfl, _, ha⟩ := ha
  rw [List.length_map]
  go_enter Tryd.func20, Tryd.ntmps20
  go_wp2
  go_loop [8] (fun vi => ∃ k : Nat, vi = .int .i64 k ∧ k ≤ xs.length ∧ Hid (∀ j (hj : j < xs.length), j < k → p ≠ xs[j])) (fun vi => xs.length - (intOf vi).toNat)
  case atStart => exact ⟨0, rfl, Nat.zero_le _, fun j _ h => absurd h (Nat.not_lt_zero _)⟩
  case round =>
    obtain ⟨k, rfl, hk, hn⟩ := hrel
    by_cases hlt : k < xs.length
    · obtain ⟨g, o, rfl, _, hc⟩ := ha (map_ne hlt)
      have hcell : w.cell? ⟨g, o + k, none⟩ = some (.string (bs xs[k])) := hc k _ (by simp [hlt])
      clear hc ha
      by_cases he : p = xs[k]
      · have hq : ((bs p).toList == (bs xs[k]).toList) = true := by rw [bs_beq]; simpa using he
        have HF := Lib.hid (fi_some hlt he (fun j hj => hn.out j (by omega) hj))
        clear he
        go_wp2
        go_ret
        exact ⟨by unfold idxI; rw [HF.out]; rfl, rfl⟩
      · have hq : ((bs p).toList == (bs xs[k]).toList) = false := by rw [bs_beq]; simpa using he
        have HN : Hid (∀ j (hj : j < xs.length), j < k + 1 → p ≠ xs[j]) := fun j hj h => by
          rcases Nat.lt_or_ge j k with h1 | h1
          · exact hn.out j hj h1
          · obtain rfl : j = k := by omega
            exact he
        clear he
        go_wp2
        go_round
        case rel => exact ⟨k + 1, by go_num, hlt, HN⟩
        case measure => simp [intOf]; omega
    · obtain rfl : k = xs.length := by omega
      have HF := Lib.hid (fi_none (l := xs) (p := p) (fun j hj => hn.out j hj hj))
      clear ha
      go_wp2
      go_ret
      exact ⟨by unfold idxI; rw [HF.out]; rfl, rfl⟩

/-- a slice of structs of so many cells each -/
def RdM (w : World) (B size : Nat) (v : Value) (n : Nat) (xs : List Value) : Prop :=
  ∃ A c, v = .slice A n c ∧ xs.length = n * size ∧ n ≤ c ∧ (0 < n → ∃ g o, A = some ⟨g, o, none⟩ ∧ g < B ∧ ∀ k u, xs[k]? = some u → w.cell? ⟨g, o + k, none⟩ = some u)
theorem RdM.keep {w w' : World} {B size n : Nat} {v : Value} {xs : List Value} (h : RdM w B size v n xs) (hk : ∀ p : Addr, p.block < B → w'.cell? p = w.cell? p) : RdM w' B size v n xs := by
  obtain ⟨A, c, hv, hl, hnc, hx⟩ := h
  refine ⟨A, c, hv, hl, hnc, fun hn => ?_⟩
  obtain ⟨g, o, hA, hg, hc⟩ := hx hn
  exact ⟨g, o, hA, hg, fun k u hu => (hk _ hg).trans (hc k u hu)⟩
theorem RdM.below {w w' : World} {B size n : Nat} {v : Value} {xs : List Value} (h : RdM w B size v n xs) (hb : Below B w w') : RdM w' B size v n xs := h.keep fun _ hp => hb.cell hp
theorem RdM.more {w : World} {B B' size n : Nat} {v : Value} {xs : List Value} (h : RdM w B size v n xs) (hB : B ≤ B') : RdM w B' size v n xs := by
  obtain ⟨A, c, hv, hl, hnc, hx⟩ := h
  refine ⟨A, c, hv, hl, hnc, fun hn => ?_⟩
  obtain ⟨g, o, hA, hg, hc⟩ := hx hn
  exact ⟨g, o, hA, by omega, hc⟩
theorem RdM.own {w : World} {base n size : Nat} {e : TypeId} {v : Value} {xs : List Value} (h : w.ownsRow base e size v n xs) : RdM w w.heap.size size v n xs := by
  have hl := h.1
  rcases h.2 with ⟨rfl, h0⟩ | ⟨g, cap, cur, rfl, hb, hh, hnc, hcm, hcs, htk⟩
  · subst h0
    exact ⟨none, 0, rfl, hl, Nat.le_refl _, fun h => absurd h (Nat.lt_irrefl _)⟩
  · refine ⟨_, cap, rfl, hl, hnc, fun _ => ⟨g, 0, rfl, (Array.getElem?_eq_some_iff.1 hh).1, fun k u hu => ?_⟩⟩
    have hk : k < xs.length := (List.getElem?_eq_some_iff.1 hu).1
    have h1 : cur[k]? = some u := by
      rw [← htk] at hu
      rw [List.getElem?_take] at hu
      rw [if_pos (by omega)] at hu
      simpa using hu
    simp [World.cell?, hh, h1]

def opCells (o : DOp) : List Value := [.int .i64 o.from_, .int .i64 o.many, .string (bs o.text)]
def opRow (l : List DOp) : List Value := l.flatMap opCells
theorem opRow_length (l : List DOp) : (opRow l).length = l.length * 3 := by
  induction l with
  | nil => rfl
  | cons o l ih => rw [show opRow (o :: l) = opCells o ++ opRow l from rfl, List.length_append, ih, show (opCells o).length = 3 from rfl, List.length_cons]; omega
theorem opRow_append (a b : List DOp) : opRow (a ++ b) = opRow a ++ opRow b := List.flatMap_append
theorem opRow_at (l : List DOp) (k : Nat) (h : k < l.length) (j : Nat) (hj : j < 3) : (opRow l)[k * 3 + j]? = (opCells l[k])[j]? := by
  conv => lhs; rw [← List.take_append_drop k l, List.drop_eq_getElem_cons h, opRow_append]
  have hl : (opRow (l.take k)).length = k * 3 := by rw [opRow_length, List.length_take, Nat.min_eq_left (by omega)]
  rw [List.getElem?_append_right (by omega), hl, Nat.add_sub_cancel_left]
  rw [show opRow (l[k] :: l.drop (k + 1)) = opCells l[k] ++ opRow (l.drop (k + 1)) from rfl, List.getElem?_append_left (by simp [opCells]; exact hj)]
theorem opRow_get {w : World} {g o : Nat} {l : List DOp} (hc : ∀ k u, (opRow l)[k]? = some u → w.cell? ⟨g, o + k, none⟩ = some u) (k : Nat) (h : k < l.length) :
    w.cell? ⟨g, o + k * 3, none⟩ = some (.int .i64 l[k].from_) ∧ w.cell? ⟨g, o + k * 3 + 1, none⟩ = some (.int .i64 l[k].many) ∧ w.cell? ⟨g, o + k * 3 + 2, none⟩ = some (.string (bs l[k].text)) := by
  have h0 := opRow_at l k h 0 (by decide)
  have h1 := opRow_at l k h 1 (by decide)
  have h2 := opRow_at l k h 2 (by decide)
  exact ⟨hc _ _ h0, by rw [Nat.add_assoc]; exact hc _ _ h1, by rw [Nat.add_assoc]; exact hc _ _ h2⟩

set_option maxRecDepth 100000 in
set_option maxHeartbeats 1000000 in
theorem DSize_any (v : Value) (l : List DOp) (B : Nat) (w : World) (ha : RdM w B 3 v l.length (opRow l)) (hs : opsSize l ≤ 2 ^ 40) (hl : l.length ≤ 2 ^ 40) (hB : B ≤ w.heap.size) :
    Calls Tryd.prog 9 #[v] w fun e w' => e = .returned (.int .i64 (opsSize l)) ∧ Below w.heap.size w w' := by
  obtain ⟨A, c, rfl, _, _, ha⟩ := ha
  go_enter Tryd.func9, Tryd.ntmps9
  go_wp2
  go_loopw [3, 8] (fun vs vi wr => ∃ k : Nat, vs = .int .i64 (opsSize (l.take k)) ∧ vi = .int .i64 k ∧ k ≤ l.length ∧ Below w.heap.size w wr) (fun _ vi _ => l.length - (intOf vi).toNat)
  case atStart => exact ⟨0, rfl, rfl, Nat.zero_le _, Below.refl _ _⟩
  case round =>
    obtain ⟨k, rfl, rfl, hk, hb⟩ := hrel
    by_cases hlt : k < l.length
    · obtain ⟨g, o, rfl, hg, hc⟩ := ha (by omega)
      obtain ⟨c1, c2, c3⟩ := opRow_get hc k hlt
      have hgw : g < w.heap.size := by omega
      replace c1 := (hb.cell (p := ⟨g, o + k * 3, none⟩) hgw).trans c1
      replace c2 := (hb.cell (p := ⟨g, o + k * 3 + 1, none⟩) hgw).trans c2
      replace c3 := (hb.cell (p := ⟨g, o + k * 3 + 2, none⟩) hgw).trans c3
      have hstep : opsSize (l.take (k + 1)) = opsSize (l.take k) + (bs l[k].text).size := by
        rw [List.take_succ_eq_append_getElem hlt, opsSize_append, bs_size]; simp [opsSize]
      have hle : opsSize (l.take (k + 1)) ≤ 2 ^ 40 := by
        have : opsSize l = opsSize (l.take (k + 1)) + opsSize (l.drop (k + 1)) := by rw [← opsSize_append, List.take_append_drop]
        omega
      rw [hstep] at hle
      have HS := Lib.hid hstep
      clear hstep hc ha
      go_wp2
      go_roundw
      case rel => exact ⟨k + 1, by rw [HS.out, Int.natCast_add], by go_num, hlt, (hb.alloc hb.size _)⟩
      case measure => simp [intOf]; omega
    · obtain rfl : k = l.length := by omega
      clear ha
      go_wp2
      go_ret
      exact ⟨by rw [List.take_of_length_le (Nat.le_refl _)]; rfl, hb⟩
end Go.Proofs.YtanondjaooocgaaDoor

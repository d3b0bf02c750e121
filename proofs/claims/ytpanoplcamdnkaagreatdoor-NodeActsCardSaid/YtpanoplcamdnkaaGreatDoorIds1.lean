/- AppM, Same, Ids in one text. Conditions: as each part says. -/
import Derived.Test.YtpanoplcamdnkaaGreatDoorRead
import Derived.Maps.AppendAt
import Derived.Laws.OwnMore
import Derived.Deep.RegionLaw
import Derived.Test.YtpanoplcamdnkaaGreatDoorPlainA
import Derived.Test.YtpanoplcamdnkaaGreatDoorChecked
import Derived.WalkKit
import Derived.Handy
import Derived.Lib.Hide
import Derived.Deep.QuietTactic
import Derived.BigQuiet
import Derived.Test.YtpanoplcamdnkaaGreatDoorPln2
import Derived.Test.YtpanoplcamdnkaaGreatDoorBox2
import Derived.Test.YtpanoplcamdnkaaGreatDoorPrt2
import Derived.Deep.AppendLies
/- append of a slice that is read, of elements of some cells, onto a row of the call's own. No conditions but bounds. -/
namespace Go.Proofs.YtpanoplcamdnkaaGreatDoor
open Go.RowKit Go.Lib

/-- v is a slice of m elements of 'size' cells that reads as the cells xs, below block B -/
def RdC (w : World) (B size : Nat) (v : Value) (m : Nat) (xs : List Value) : Prop :=
  ∃ A c, v = .slice A m c ∧ xs.length = m * size ∧ m ≤ c ∧ (0 < m → ∃ g o, A = some ⟨g, o, none⟩ ∧ g < B ∧ ∀ k u, xs[k]? = some u → w.cell? ⟨g, o + k, none⟩ = some u)
theorem add_eqM (g o j : Nat) : (⟨g, o, none⟩ : Addr).add j = ⟨g, o + j, none⟩ := by unfold Addr.add; split <;> simp_all
theorem RdC.below {w w' : World} {B size m : Nat} {v : Value} {xs : List Value} (h : RdC w B size v m xs) (hb : Below B w w') : RdC w' B size v m xs := by
  obtain ⟨A, c, hv, hl, hc, hx⟩ := h
  refine ⟨A, c, hv, hl, hc, fun h0 => ?_⟩
  obtain ⟨g, o, hA, hg, hcell⟩ := hx h0
  exact ⟨g, o, hA, hg, fun k u hu => (hb.cell (p := ⟨g, o + k, none⟩) hg).trans (hcell k u hu)⟩
section
variable {P : Program}
theorem run_append_rdM (w : World) (base : Nat) (t ty e : TypeId) (i : TypeInfo) (z : Value) (size bytes : Nat) (ht : P.underlying t = some (.slice e)) (hi : P.info? e = some i) (hz : i.zero = some z)
    (hsize : i.size = size) (hby : i.bytes = bytes) (hzs : z.cells.size = size) (hsz : 0 < size) (v : Value) (n : Nat) (xs : List Value) (hown : w.ownsRow base e size v n xs)
    (B : Nat) (x : Value) (m : Nat) (ns : List Value) (hx : RdC w B size x m ns) (h1 : ∀ u ∈ ns, u.oneCell' = true) (h63 : n + m ≤ maxLen) (hbytes : (n + m) * bytes ≤ 140737488355328) (hbase : base ≤ w.heap.size) :
    ∃ v' w', (Builtin.append_ #[t, t] ty #[v, x]).run P w = .ok v' w' ∧ w'.ownsRow base e size v' (n + m) (xs ++ ns) ∧ w.grownBy w' v.ownBlock := by
  obtain ⟨A, c, rfl, hl, hlc, hc⟩ := hx
  by_cases h0 : m = 0
  · subst h0
    obtain rfl : ns = [] := List.eq_nil_of_length_eq_zero (by omega)
    have hr : (Builtin.append_ #[t, t] ty #[v, .slice A 0 c]).run P w = .ok v w := by
      rcases hown.2 with ⟨rfl, rfl⟩ | ⟨g, cap, cur, rfl, _, _, hnc, _⟩
      · cases A <;> simp [Builtin.append_, run_underlying ht, sizeOf, typeInfo, hi, Builtin.lenOf, Builtin.firstCells, loadCells, loadCellsFrom]
      · cases A <;> simp [Builtin.append_, run_underlying ht, sizeOf, typeInfo, hi, Builtin.lenOf, Builtin.firstCells, hnc, storeCells, loadCells, loadCellsFrom]
    exact ⟨v, w, hr, by rw [List.append_nil]; exact hown, ⟨rfl, rfl, rfl, Nat.le_refl _, fun _ _ _ => rfl⟩⟩
  · obtain ⟨g, o, rfl, hg, hc⟩ := hc (by omega)
    obtain ⟨v', w', hr, h2, h3, _, _⟩ := run_append_own_at (P := P) w base t ty e i z size bytes ht hi hz hsize hby hzs hsz v n xs hown ⟨g, o, none⟩ m c ns hl (fun j u hu => by rw [add_eqM]; exact hc j u hu) h1 h63 hbytes hbase
    exact ⟨v', w', hr, h2, h3⟩
theorem wpList_append_rdM {w : World} {ops : Array Oper} {rest : List Oper} {o : Oper} {a : Act} {Q : Exit → Act → World → Prop} (hgd : o.guard = none) (s x : Operand) (t : TypeId)
    (ho : o.op = .call { callee := .builtin .append, args := #[s, x], argTypes := #[t, t] })
    (base : Nat) (e : TypeId) (i : TypeInfo) (z : Value) (size bytes : Nat) (ht : P.underlying t = some (.slice e)) (hi : P.info? e = some i) (hz : i.zero = some z)
    (hsize : i.size = size) (hby : i.bytes = bytes) (hzs : z.cells.size = size) (hsz : 0 < size)
    (v : Value) (n : Nat) (xs : List Value) (hs : a.eval s = v) (hown : w.ownsRow base e size v n xs)
    (B : Nat) (vx : Value) (m : Nat) (ns : List Value) (hx : a.eval x = vx) (hr : RdC w B size vx m ns) (h1 : ∀ u ∈ ns, u.oneCell' = true) (h63 : n + m ≤ maxLen) (hbytes : (n + m) * bytes ≤ 140737488355328) (hbase : base ≤ w.heap.size)
    (h : ∀ v' w', w'.ownsRow base e size v' (n + m) (xs ++ ns) → w.grownBy w' v.ownBlock → wpList P ops Q rest (a.put o.dst v') w') :
    wpList P ops Q (o :: rest) a w := by
  refine wpList_plain hgd fun K hK => ?_
  obtain ⟨v', w', hr, h2, h3⟩ := run_append_rdM (P := P) w base t o.type e i z size bytes ht hi hz hsize hby hzs hsz v n xs hown B vx m ns hr h1 h63 hbytes hbase
  unfold Oper.wp execOp
  simp only [ho, resolve, invoke, builtin, Sem.run_bind, Sem.run_pure, Result.andThen_ok, List.map_toArray, List.map_cons, List.map_nil, hs, hx, hr]
  exact hK _ _ (h v' w' h2 h3)
end
/-- 's[:k]' -/
theorem RdC.takeM {w : World} {B size n c : Nat} {A : Option Addr} {xs : List Value} (h : RdC w B size (.slice A n c) n xs) (k : Nat) (hk : k ≤ n) : RdC w B size (.slice A k c) k (xs.take (k * size)) := by
  obtain ⟨A', c', hv, hl, hlc, hx⟩ := h
  injection hv with h1 h2 h3
  subst h1; subst h3
  refine ⟨A, c, rfl, by rw [List.length_take, hl]; exact Nat.min_eq_left (Nat.mul_le_mul_right _ hk), by omega, fun h0 => ?_⟩
  obtain ⟨g, o, hA, hg, hc⟩ := hx (by omega)
  refine ⟨g, o, hA, hg, fun j u hu => hc j u ?_⟩
  rw [List.getElem?_take] at hu
  split at hu
  · exact hu
  · cases hu
/-- 's[k:]' as the walk writes it -/
theorem RdC.cutM {w : World} {B size n c : Nat} {A : Option Addr} {xs : List Value} (h : RdC w B size (.slice A n c) n xs) (k : Nat) (hk : k ≤ n) :
    RdC w B size (.slice (if c = k then A else A.map (fun x => x.add (k * size))) (n - k) (c - k)) (n - k) (xs.drop (k * size)) := by
  obtain ⟨A', c', hv, hl, hlc, hx⟩ := h
  injection hv with h1 h2 h3
  subst h1; subst h3
  refine ⟨_, _, rfl, by rw [List.length_drop, hl, Nat.sub_mul], by omega, fun h0 => ?_⟩
  rw [if_neg (by omega)]
  obtain ⟨g, o, rfl, hg, hc⟩ := hx (by omega)
  refine ⟨g, o + k * size, by rw [Option.map_some, add_eqM], hg, fun j u hu => ?_⟩
  rw [List.getElem?_drop] at hu
  rw [Nat.add_assoc]
  exact hc _ u hu
end Go.Proofs.YtpanoplcamdnkaaGreatDoor
/- Walks of SameInts, SameTexts (are two slices the same?), InInts. Condition: lengths below 2^62. -/
namespace Go.Proofs.YtpanoplcamdnkaaGreatDoor
open Go.RowKit Go.Lib

abbrev VZ (n : Int) : Value := .int .i64 n
theorem take_snoc {α : Type} {xs ys : List α} {k : Nat} (h : xs.take k = ys.take k) (hx : k < xs.length) (hy : k < ys.length) (e : xs[k] = ys[k]) : xs.take (k + 1) = ys.take (k + 1) := by
  rw [List.take_succ_eq_append_getElem hx, List.take_succ_eq_append_getElem hy, h, e]

abbrev VT (b : Bytes) : Value := .string (bs b)
set_option maxRecDepth 100000 in
set_option maxHeartbeats 1000000 in
theorem SameTexts_any (va vb : Value) (xs ys : List Bytes) (B : Nat) (w : World) (ha : Rd w B va (xs.map VT)) (hb : Rd w B vb (ys.map VT)) (hx : xs.length ≤ 2 ^ 62) (hy : ys.length ≤ 2 ^ 62) :
    Calls Tryz.prog 100 #[va, vb] w fun e w' => e = .returned (.bool (decide (xs = ys))) ∧ ∃ n, w' = w.drewN n := by
  obtain ⟨A, c, rfl, _, ha⟩ := ha
  obtain ⟨A', c', rfl, _, hb⟩ := hb
  rw [List.length_map, List.length_map]
  by_cases hl : xs.length = ys.length
  · by_cases h0 : xs.length = 0
    · have e1 : xs = [] := List.eq_nil_of_length_eq_zero h0
      have e2 : ys = [] := List.eq_nil_of_length_eq_zero (by omega)
      subst e1; subst e2
      go_enter Tryz.func100, Tryz.ntmps100
      go_wp2
      go_rounds 1
      go_ret
      exact ⟨rfl, 0, rfl⟩
    · obtain ⟨g, o, rfl, _, hca⟩ := ha (by intro h; apply h0; rw [← List.length_map (f := VT), h]; rfl)
      obtain ⟨g', o', rfl, _, hcb⟩ := hb (by intro h; apply h0; rw [hl, ← List.length_map (f := VT), h]; rfl)
      have HA := Lib.hid hca
      have HB := Lib.hid hcb
      have HL := Lib.hid hl
      have hl1 : ((xs.length : Int) != (ys.length : Int)) = false := by rw [hl]; simp
      have hl2 := Nat.le_of_eq hl
      have hl3 := Nat.le_of_eq hl.symm
      clear hca hcb hl h0 ha hb
      go_enter Tryz.func100, Tryz.ntmps100
      go_wp2
      go_loopw [5] (fun vi wr => ∃ (k m : Nat), vi = .int .i64 k ∧ k ≤ xs.length ∧ wr = w.drewN m ∧ Hid (xs.take k = ys.take k)) (fun vi _ => xs.length - (RowKit.intOf vi).toNat)
      case atStart => exact ⟨0, 0, rfl, Nat.zero_le _, rfl, rfl⟩
      case round =>
        obtain ⟨k, m, rfl, hk, rfl, ht⟩ := hrel
        by_cases hlt : k < xs.length
        · have hlt' : k < ys.length := by omega
          have c1 : w.cell? ⟨g, o + k, none⟩ = some (.string (bs xs[k])) := HA.out k _ (by simp [hlt])
          have c2 : w.cell? ⟨g', o' + k, none⟩ = some (.string (bs ys[k])) := HB.out k _ (by simp [hlt'])
          have b1 : (0 : Int) ≤ (k : Int) := by omega
          have b2 : (k : Int) < (xs.length : Int) := by omega
          have b3 : (k : Int) < (ys.length : Int) := by omega
          by_cases he : xs[k] = ys[k]
          · have hq : ((bs xs[k]).toList == (bs ys[k]).toList) = true := by rw [bs_beq]; simpa using he
            have HE := Lib.hid he
            clear he
            go_wp2
            go_quiet (fail)
            go_wp2
            go_roundw
            case rel => exact ⟨k + 1, _, by go_num, by omega, rfl, take_snoc ht.out hlt hlt' HE.out⟩
            case measure => simp [RowKit.intOf]; omega
          · have hq : ((bs xs[k]).toList == (bs ys[k]).toList) = false := by rw [bs_beq]; simpa using he
            have hne : decide (xs = ys) = false := by
              rw [decide_eq_false_iff_not]; rintro rfl; exact he rfl
            have HN := Lib.hid hne
            clear he hne
            go_wp2
            go_quiet (fail)
            go_wp2
            go_ret
            exact ⟨by rw [HN.out]; rfl, _, World.drewN_drewN _ _ _⟩
        · obtain rfl : k = xs.length := by omega
          have hq : decide (xs = ys) = true := by
            have h := ht.out
            rw [List.take_of_length_le (Nat.le_refl _), List.take_of_length_le (by omega)] at h
            simpa using h
          have HQ := Lib.hid hq
          clear hq
          go_wp2
          go_ret
          exact ⟨by rw [HQ.out]; rfl, _, rfl⟩
  · have hne : decide (xs = ys) = false := by
      rw [decide_eq_false_iff_not]; rintro rfl; exact hl rfl
    rw [hne]
    have hl1 : ((xs.length : Int) != (ys.length : Int)) = true := by simp; omega
    go_enter Tryz.func100, Tryz.ntmps100
    go_wp2
    go_ret
    exact ⟨rfl, 0, rfl⟩
end Go.Proofs.YtpanoplcamdnkaaGreatDoor
/- IDs and recipes in memory: slices of IDs that are read, rows of IDs of the call's own, a recipe in a block. No conditions. -/
namespace Go.Proofs.YtpanoplcamdnkaaGreatDoor
open Go.RowKit Go.Lib

def idCells (x : Idn) : List Value := [.int .u32 (x.1 : Int), .int .i64 x.2]
abbrev idV (x : Idn) : Value := .agg #[.int .u32 (x.1 : Int), .int .i64 x.2]
def idRow (L : IdL) : List Value := L.flatMap idCells
theorem idRow_length (L : IdL) : (idRow L).length = L.length * 2 := by
  induction L with
  | nil => rfl
  | cons o l ih => rw [show idRow (o :: l) = idCells o ++ idRow l from rfl, List.length_append, ih, show (idCells o).length = 2 from rfl, List.length_cons]; omega
theorem idRow_append (a b : IdL) : idRow (a ++ b) = idRow a ++ idRow b := List.flatMap_append
theorem idRow_snoc (a : IdL) (x : Idn) : idRow (a ++ [x]) = idRow a ++ [.int .u32 (x.1 : Int), .int .i64 x.2] := by rw [idRow_append]; rfl
theorem idRow_at (l : IdL) (k : Nat) (h : k < l.length) (j : Nat) (hj : j < 2) : (idRow l)[k * 2 + j]? = (idCells l[k])[j]? := by
  conv => lhs; rw [← List.take_append_drop k l, List.drop_eq_getElem_cons h, idRow_append]
  have hl : (idRow (l.take k)).length = k * 2 := by rw [idRow_length, List.length_take, Nat.min_eq_left (by omega)]
  rw [List.getElem?_append_right (by omega), hl, Nat.add_sub_cancel_left]
  rw [show idRow (l[k] :: l.drop (k + 1)) = idCells l[k] ++ idRow (l.drop (k + 1)) from rfl, List.getElem?_append_left (by simp [idCells]; exact hj)]
theorem idRow_one (L : IdL) : ∀ u ∈ idRow L, u.oneCell' = true := by
  intro u hu
  obtain ⟨x, _, hx⟩ := List.mem_flatMap.1 hu
  simp only [idCells, List.mem_cons, List.not_mem_nil, or_false] at hx
  rcases hx with rfl | rfl <;> rfl
/-- v is a slice that reads as the IDs L, below block B -/
def RdI (w : World) (B : Nat) (v : Value) (L : IdL) : Prop := RdC w B 2 v L.length (idRow L)
theorem RdI.below {w w' : World} {B : Nat} {v : Value} {L : IdL} (h : RdI w B v L) (hb : Below B w w') : RdI w' B v L := RdC.below h hb
theorem RdI.more {w : World} {B B' : Nat} {v : Value} {L : IdL} (h : RdI w B v L) (hB : B ≤ B') : RdI w B' v L := by
  obtain ⟨A, c, hv, hl, hc, hx⟩ := h
  refine ⟨A, c, hv, hl, hc, fun h0 => ?_⟩
  obtain ⟨g, o, hA, hg, hcell⟩ := hx h0
  exact ⟨g, o, hA, by omega, hcell⟩
theorem RdI.keep {w w' : World} {B B' : Nat} {v : Value} {L : IdL} (h : RdI w B v L) (hb : Below B' w w') (h1 : B ≤ B') : RdI w' B v L := h.below (hb.mono h1)
theorem RdI.nil (w : World) (B : Nat) : RdI w B (.slice none 0 0) [] := ⟨none, 0, rfl, rfl, Nat.le_refl _, fun h => absurd h (by simp)⟩
theorem RdI.own {w : World} {base n : Nat} {v : Value} {L : IdL} (h : w.ownsRow base 47 2 v n (idRow L)) (hn : n = L.length) : RdI w w.heap.size v L := by
  subst hn
  rcases h.2 with ⟨rfl, h0⟩ | ⟨g, cap, cur, hv, _, hh, hnc, _⟩
  · exact ⟨none, 0, by rw [h0], h.1, by rw [h0]; exact Nat.le_refl _, fun h => absurd h (by omega)⟩
  · refine ⟨_, cap, hv, h.1, hnc, fun _ => ⟨g, 0, rfl, (Array.getElem?_eq_some_iff.1 hh).1, fun k u hu => ?_⟩⟩
    subst hv
    have hk : k < L.length * 2 := by rw [← h.1]; exact (List.getElem?_eq_some_iff.1 hu).1
    rw [Nat.zero_add, h.cellAt k hk]; exact hu
theorem RdI.form {w : World} {B : Nat} {v : Value} {L : IdL} (h : RdI w B v L) : ∃ A c, v = .slice A L.length c ∧ L.length ≤ c ∧ (0 < L.length → ∃ g o, A = some ⟨g, o, none⟩ ∧ g < B ∧ ∀ k (hk : k < L.length),
    w.cell? ⟨g, o + k * 2, none⟩ = some (.int .u32 (L[k].1 : Int)) ∧ w.cell? ⟨g, o + k * 2 + 1, none⟩ = some (.int .i64 L[k].2)) := by
  obtain ⟨A, c, hv, hl, hc, hx⟩ := h
  refine ⟨A, c, hv, hc, fun h0 => ?_⟩
  obtain ⟨g, o, hA, hg, hcell⟩ := hx h0
  refine ⟨g, o, hA, hg, fun k hk => ⟨?_, ?_⟩⟩
  · have := hcell (k * 2 + 0) _ (by rw [idRow_at L k hk 0 (by decide)]; rfl)
    simpa using this
  · have := hcell (k * 2 + 1) _ (by rw [idRow_at L k hk 1 (by decide)]; rfl)
    simpa [Nat.add_assoc] using this
theorem own_belowI {w w' : World} {base n size : Nat} {e : TypeId} {v : Value} {xs : List Value} (h : w.ownsRow base e size v n xs) (hb : Below w.heap.size w w') : w'.ownsRow base e size v n xs := by
  refine ⟨h.1, ?_⟩
  rcases h.2 with h | ⟨g, cap, cur, hv, hg, hh, h3⟩
  · exact .inl h
  · exact .inr ⟨g, cap, cur, hv, hg, (hb.block g (Array.getElem?_eq_some_iff.1 hh).1).trans hh, h3⟩
theorem own_formI {w : World} {base n size : Nat} {e : TypeId} {v : Value} {xs : List Value} (h : w.ownsRow base e size v n xs) : ∃ A c, v = .slice A n c := by
  rcases h.2 with ⟨rfl, rfl⟩ | ⟨g, cap, cur, rfl, _⟩
  · exact ⟨_, _, rfl⟩
  · exact ⟨_, _, rfl⟩
theorem cell_newI (w : World) (x y : Value) (t : TypeId) : ∀ j u, [x, y][j]? = some u → (w.alloc (.cells #[x, y] t)).cell? ((⟨w.heap.size, 0, none⟩ : Addr).add j) = some u := by
  intro j u hj
  rw [add_eqM, Nat.zero_add, World.cell?_alloc_at _ _ _ _ rfl]
  match j, hj with
  | 0, hj => exact hj
  | 1, hj => exact hj
  | j + 2, hj => simp at hj
theorem info_idI : (Tryz.prog.info? 47).map (fun i => (i.zero, i.size, i.bytes)) = some (some (.agg #[.int .u32 0, .int .i64 0]), 2, 16) := by kernel_rfl
/-! ### what stands, but for one block -/
theorem gb_below {w w1 w2 : World} {r : Option Nat} (h : w.grownBy w1 r) (hb : Below w1.heap.size w1 w2) : w.grownBy w2 r := h.trans ⟨hb.os, hb.tape, hb.output, hb.size, fun i hi _ => hb.block i hi⟩
theorem set_keepI {w : World} {k b j : Nat} {v : Value} (h : k ≠ b) : (w.setCell ⟨b, j, none⟩ v).heap[k]? = w.heap[k]? := by simp [World.setCell, Array.getElem?_modify, Ne.symm h]
theorem gb_set {w w1 : World} {b : Nat} (h : w.grownBy w1 (some b)) (j : Nat) (v : Value) : w.grownBy (w1.setCell ⟨b, j, none⟩ v) (some b) :=
  h.trans ⟨rfl, rfl, rfl, by simp [World.setCell], fun i _ hne => set_keepI (fun e => hne (by rw [e]))⟩
theorem gb_row {w w1 w2 : World} {b base n size : Nat} {e : TypeId} {v : Value} {xs : List Value} (h : w.grownBy w1 (some b)) (hb : w.heap.size ≤ base) (ho : w1.ownsRow base e size v n xs) (hg : w1.grownBy w2 v.ownBlock) : w.grownBy w2 (some b) :=
  h.andThen hg (fun j hj => .inl (Nat.le_trans hb (own_ge ho hj)))
theorem gb_toBelow {B b : Nat} {w0 w w' : World} (h0 : Below B w0 w) (hB : B ≤ w.heap.size) (hb : B ≤ b) (h : w.grownBy w' (some b)) : Below B w0 w' :=
  h0.grown h hB (fun k e => by injection e with e; omega)
theorem gb_box2 {w w' : World} {b d : Nat} {x y : Value} (h : w.grownBy w' (some b)) (hd : d ≠ b) (hx : Box2 d x y w) : Box2 d x y w' :=
  have hne : some d ≠ some b := fun e => hd (by injection e)
  ⟨(h.cell_far ⟨d, 0, none⟩ hx.lt hne).trans hx.c0, (h.cell_far ⟨d, 1, none⟩ hx.lt hne).trans hx.c1, (h.frozen_far ⟨d, 0, none⟩ hx.lt hne).trans hx.f0, (h.frozen_far ⟨d, 1, none⟩ hx.lt hne).trans hx.f1⟩
/-- a row of the call's own, read -/
theorem own_rdI {w : World} {base n : Nat} {e : TypeId} {v : Value} {xs : List Value} (h : w.ownsRow base e 1 v n xs) :
    ∃ A c, v = .slice A n c ∧ n ≤ c ∧ (0 < n → ∃ g, A = some ⟨g, 0, none⟩ ∧ base ≤ g ∧ g < w.heap.size ∧ ∀ k u, xs[k]? = some u → w.cell? ⟨g, k, none⟩ = some u) := by
  rcases h.2 with ⟨rfl, h0⟩ | ⟨g, cap, cur, hv, hge, hh, hnc, _⟩
  · exact ⟨none, 0, by rw [h0], by omega, fun h => absurd h (by omega)⟩
  · refine ⟨_, cap, hv, hnc, fun _ => ⟨g, rfl, hge, (Array.getElem?_eq_some_iff.1 hh).1, fun k u hu => ?_⟩⟩
    subst hv
    have hk : k < n * 1 := by rw [← h.1]; exact (List.getElem?_eq_some_iff.1 hu).1
    rw [h.cellAt k hk]; exact hu
/-- a block of four cells -/
structure Box4 (b : Nat) (x y z u : Value) (w : World) : Prop where
  c0 : w.cell? ⟨b, 0, none⟩ = some x
  c1 : w.cell? ⟨b, 1, none⟩ = some y
  c2 : w.cell? ⟨b, 2, none⟩ = some z
  c3 : w.cell? ⟨b, 3, none⟩ = some u
  f : ∀ j, w.frozen? ⟨b, j, none⟩ = false
theorem Box4.lt {b : Nat} {x y z u : Value} {w : World} (h : Box4 b x y z u w) : b < w.heap.size := World.block_lt_of_cell? w _ h.c0
theorem Box4.below {b B : Nat} {x y z u : Value} {w w' : World} (h : Box4 b x y z u w) (hb : Below B w w') (hB : b < B) : Box4 b x y z u w' :=
  ⟨(hb.cell (p := ⟨b, 0, none⟩) hB).trans h.c0, (hb.cell (p := ⟨b, 1, none⟩) hB).trans h.c1, (hb.cell (p := ⟨b, 2, none⟩) hB).trans h.c2, (hb.cell (p := ⟨b, 3, none⟩) hB).trans h.c3, fun j => (hb.frozen (p := ⟨b, j, none⟩) hB).trans (h.f j)⟩
theorem Box4.mk' (w : World) (x y z u : Value) (t : TypeId) : Box4 w.heap.size x y z u (w.alloc (.cells #[x, y, z, u] t)) :=
  ⟨by rw [World.cell?_alloc_at _ _ _ _ rfl]; rfl, by rw [World.cell?_alloc_at _ _ _ _ rfl]; rfl, by rw [World.cell?_alloc_at _ _ _ _ rfl]; rfl, by rw [World.cell?_alloc_at _ _ _ _ rfl]; rfl, fun _ => World.frozen?_alloc_new _ _ _ _⟩
theorem Box4.set3 {b : Nat} {x y z u : Value} {w : World} (h : Box4 b x y z u w) (v : Value) : Box4 b x y z v (w.setCell ⟨b, 3, none⟩ v) := by
  have hne : ∀ j, j ≠ 3 → (⟨b, 3, none⟩ : Addr) ≠ ⟨b, j, none⟩ := by intro j hj h; injection h with _ h; exact hj h.symm
  exact ⟨(World.cell?_setCell_other _ _ _ _ (hne 0 (by decide))).trans h.c0, (World.cell?_setCell_other _ _ _ _ (hne 1 (by decide))).trans h.c1, (World.cell?_setCell_other _ _ _ _ (hne 2 (by decide))).trans h.c2,
    World.cell?_setCell_same _ _ _ h.c3, fun j => by rw [World.frozen?_setCell]; exact h.f j⟩
theorem gb_box4 {w w' : World} {d : Nat} {x y z u : Value} {r : Option Nat} (h : w.grownBy w' r) (hne : some d ≠ r) (hx : Box4 d x y z u w) : Box4 d x y z u w' :=
  ⟨(h.cell_far ⟨d, 0, none⟩ hx.lt hne).trans hx.c0, (h.cell_far ⟨d, 1, none⟩ hx.lt hne).trans hx.c1, (h.cell_far ⟨d, 2, none⟩ hx.lt hne).trans hx.c2, (h.cell_far ⟨d, 3, none⟩ hx.lt hne).trans hx.c3, fun j => (h.frozen_far ⟨d, j, none⟩ hx.lt hne).trans (hx.f j)⟩
theorem own_far {w : World} {base n size d : Nat} {e : TypeId} {v : Value} {xs : List Value} (h : w.ownsRow base e size v n xs) (hd : d < base) : some d ≠ v.ownBlock := fun e => by
  have := own_ge h e.symm; omega
theorem own_setI {w : World} {base n size d j : Nat} {x : Value} {e : TypeId} {v : Value} {xs : List Value} (h : w.ownsRow base e size v n xs) (hd : d < base) : (w.setCell ⟨d, j, none⟩ x).ownsRow base e size v n xs := by
  refine ⟨h.1, ?_⟩
  rcases h.2 with h | ⟨g, cap, cur, hv, hg, hh, h3⟩
  · exact .inl h
  · exact .inr ⟨g, cap, cur, hv, hg, by rw [set_keepI (by omega)]; exact hh, h3⟩
theorem cell_setI {w : World} {b j k : Nat} {v : Value} (h : k ≠ j) : (w.setCell ⟨b, j, none⟩ v).cell? ⟨b, k, none⟩ = w.cell? ⟨b, k, none⟩ :=
  World.cell?_setCell_other _ _ _ _ (by intro e; injection e with _ e; exact h e.symm)
theorem Box4.set {b : Nat} {x y z u : Value} {w : World} (h : Box4 b x y z u w) (x' y' z' u' : Value) :
    Box4 b x' y' z' u' ((((w.setCell ⟨b, 0, none⟩ x').setCell ⟨b, 1, none⟩ y').setCell ⟨b, 2, none⟩ z').setCell ⟨b, 3, none⟩ u') := by
  refine ⟨?_, ?_, ?_, ?_, fun j => by simp only [World.frozen?_setCell]; exact h.f j⟩
  · rw [cell_setI (by decide), cell_setI (by decide), cell_setI (by decide)]; exact World.cell?_setCell_same _ _ _ h.c0
  · rw [cell_setI (by decide), cell_setI (by decide)]; exact World.cell?_setCell_same _ _ _ (by rw [cell_setI (by decide)]; exact h.c1)
  · rw [cell_setI (by decide)]; exact World.cell?_setCell_same _ _ _ (by rw [cell_setI (by decide), cell_setI (by decide)]; exact h.c2)
  · exact World.cell?_setCell_same _ _ _ (by rw [cell_setI (by decide), cell_setI (by decide), cell_setI (by decide)]; exact h.c3)
theorem below_set4 {B b : Nat} {a w : World} (h : Below B a w) (hb : B ≤ b) (x y z u : Value) : Below B a ((((w.setCell ⟨b, 0, none⟩ x).setCell ⟨b, 1, none⟩ y).setCell ⟨b, 2, none⟩ z).setCell ⟨b, 3, none⟩ u) :=
  (((h.setCell (p := ⟨b, 0, none⟩) hb x).setCell (p := ⟨b, 1, none⟩) hb y).setCell (p := ⟨b, 2, none⟩) hb z).setCell (p := ⟨b, 3, none⟩) hb u
theorem size_set4 (w : World) (b : Nat) (x y z u : Value) : ((((w.setCell ⟨b, 0, none⟩ x).setCell ⟨b, 1, none⟩ y).setCell ⟨b, 2, none⟩ z).setCell ⟨b, 3, none⟩ u).heap.size = w.heap.size := by simp [World.setCell]
theorem own_set4 {w : World} {base n size : Nat} {e : TypeId} {v : Value} {xs : List Value} (h : w.ownsRow base e size v n xs) {b : Nat} (hb : b < base) (x y z u : Value) :
    ((((w.setCell ⟨b, 0, none⟩ x).setCell ⟨b, 1, none⟩ y).setCell ⟨b, 2, none⟩ z).setCell ⟨b, 3, none⟩ u).ownsRow base e size v n xs := by
  refine ⟨h.1, ?_⟩
  rcases h.2 with h | ⟨g, cap, cur, hv, hg, hh, h3⟩
  · exact .inl h
  · have hne : g ≠ b := by omega
    exact .inr ⟨g, cap, cur, hv, hg, by rw [set_keepI hne, set_keepI hne, set_keepI hne, set_keepI hne]; exact hh, h3⟩
/-- a recipe as a value: its IDs are read below block B -/
def RcpV (w : World) (B : Nat) (v : Value) (r : Rcp) : Prop := ∃ sl, v = .agg #[VT r.name, .int .i64 r.len, .int .u32 (r.print : Int), sl] ∧ RdI w B sl r.ids
theorem RcpV.keep {w w' : World} {B B' : Nat} {v : Value} {r : Rcp} (h : RcpV w B v r) (hb : Below B' w w') (h1 : B ≤ B') : RcpV w' B v r := by
  obtain ⟨sl, hv, hr⟩ := h
  exact ⟨sl, hv, hr.keep hb h1⟩
theorem RcpV.more {w : World} {B B' : Nat} {v : Value} {r : Rcp} (h : RcpV w B v r) (hB : B ≤ B') : RcpV w B' v r := by
  obtain ⟨sl, hv, hr⟩ := h
  exact ⟨sl, hv, hr.more hB⟩
theorem RcpV.below {w w' : World} {v : Value} {r : Rcp} (h : RcpV w w.heap.size v r) (hb : Below w.heap.size w w') : RcpV w' w'.heap.size v r := (h.keep hb (Nat.le_refl _)).more hb.size
theorem RcpV.zero (w : World) (B : Nat) : RcpV w B (.agg #[.string ByteArray.empty, .int .i64 0, .int .u32 0, .slice none 0 0]) rcpZero := ⟨_, rfl, RdI.nil w B⟩
def zeroV : Value := .agg #[.string ⟨#[]⟩, .int .i64 0, .int .u32 0, .slice none 0 0]
/-- v is a slice that reads as the IDs L, in a block from lo on, below hi -/
def RdB (w : World) (lo hi : Nat) (v : Value) (L : IdL) : Prop :=
  ∃ A c, v = .slice A L.length c ∧ L.length ≤ c ∧ (0 < L.length → ∃ g o, A = some ⟨g, o, none⟩ ∧ lo ≤ g ∧ g < hi ∧ ∀ k u, (idRow L)[k]? = some u → w.cell? ⟨g, o + k, none⟩ = some u)
theorem RdB.rd {w : World} {lo hi : Nat} {v : Value} {L : IdL} (h : RdB w lo hi v L) : RdI w hi v L := by
  obtain ⟨A, c, hv, hc, hx⟩ := h
  exact ⟨A, c, hv, idRow_length L, hc, fun h0 => by obtain ⟨g, o, h1, _, h3, h4⟩ := hx h0; exact ⟨g, o, h1, h3, h4⟩⟩
theorem RdB.of {w : World} {hi : Nat} {v : Value} {L : IdL} (h : RdI w hi v L) : RdB w 0 hi v L := by
  obtain ⟨A, c, hv, _, hc, hx⟩ := h
  exact ⟨A, c, hv, hc, fun h0 => by obtain ⟨g, o, h1, h3, h4⟩ := hx h0; exact ⟨g, o, h1, Nat.zero_le _, h3, h4⟩⟩
theorem RdB.keep {w w' : World} {lo hi lo' hi' : Nat} {v : Value} {L : IdL} (h : RdB w lo hi v L) (hk : ∀ p : Addr, lo ≤ p.block → p.block < hi → w'.cell? p = w.cell? p) (h1 : lo' ≤ lo) (h2 : hi ≤ hi') : RdB w' lo' hi' v L := by
  obtain ⟨A, c, hv, hc, hx⟩ := h
  exact ⟨A, c, hv, hc, fun h0 => by obtain ⟨g, o, e1, e2, e3, e4⟩ := hx h0; exact ⟨g, o, e1, by omega, by omega, fun k u hu => (hk ⟨g, o + k, none⟩ e2 e3).trans (e4 k u hu)⟩⟩
theorem RdB.wide {w : World} {lo hi lo' hi' : Nat} {v : Value} {L : IdL} (h : RdB w lo hi v L) (h1 : lo' ≤ lo) (h2 : hi ≤ hi') : RdB w lo' hi' v L := h.keep (fun _ _ _ => rfl) h1 h2
theorem RdB.below {w w' : World} {lo hi B : Nat} {v : Value} {L : IdL} (h : RdB w lo hi v L) (hb : Below B w w') (hB : hi ≤ B) : RdB w' lo hi v L :=
  h.keep (fun _ _ hp => hb.cell (Nat.lt_of_lt_of_le hp hB)) (Nat.le_refl _) (Nat.le_refl _)
theorem RdB.own {w : World} {base n : Nat} {v : Value} {L : IdL} (h : w.ownsRow base 47 2 v n (idRow L)) (hn : n = L.length) : RdB w base w.heap.size v L := by
  subst hn
  rcases h.2 with ⟨rfl, h0⟩ | ⟨g, cap, cur, hv, hge, hh, hnc, _⟩
  · exact ⟨none, 0, by rw [h0], by rw [h0]; exact Nat.le_refl _, fun h => absurd h (by omega)⟩
  · refine ⟨_, cap, hv, hnc, fun _ => ⟨g, 0, rfl, hge, (Array.getElem?_eq_some_iff.1 hh).1, fun k u hu => ?_⟩⟩
    subst hv
    have hk : k < L.length * 2 := by rw [← h.1]; exact (List.getElem?_eq_some_iff.1 hu).1
    rw [Nat.zero_add, h.cellAt k hk]; exact hu
theorem RdB.nil (w : World) (lo hi : Nat) : RdB w lo hi (.slice none 0 0) [] := ⟨none, 0, rfl, Nat.le_refl _, fun h => absurd h (by simp)⟩
/-- a recipe as a value: its IDs lie in a block from lo on, below hi -/
def RcpW (w : World) (lo hi : Nat) (v : Value) (r : Rcp) : Prop := ∃ sl, v = .agg #[VT r.name, .int .i64 r.len, .int .u32 (r.print : Int), sl] ∧ RdB w lo hi sl r.ids
theorem RcpW.v {w : World} {lo hi : Nat} {v : Value} {r : Rcp} (h : RcpW w lo hi v r) : RcpV w hi v r := by obtain ⟨sl, hv, h⟩ := h; exact ⟨sl, hv, h.rd⟩
theorem RcpW.of {w : World} {hi : Nat} {v : Value} {r : Rcp} (h : RcpV w hi v r) : RcpW w 0 hi v r := by obtain ⟨sl, hv, h⟩ := h; exact ⟨sl, hv, RdB.of h⟩
theorem RcpW.keep {w w' : World} {lo hi lo' hi' : Nat} {v : Value} {r : Rcp} (h : RcpW w lo hi v r) (hk : ∀ p : Addr, lo ≤ p.block → p.block < hi → w'.cell? p = w.cell? p) (h1 : lo' ≤ lo) (h2 : hi ≤ hi') : RcpW w' lo' hi' v r := by
  obtain ⟨sl, hv, h⟩ := h; exact ⟨sl, hv, h.keep hk h1 h2⟩
theorem RcpW.wide {w : World} {lo hi lo' hi' : Nat} {v : Value} {r : Rcp} (h : RcpW w lo hi v r) (h1 : lo' ≤ lo) (h2 : hi ≤ hi') : RcpW w lo' hi' v r := h.keep (fun _ _ _ => rfl) h1 h2
theorem RcpW.below {w w' : World} {lo hi B : Nat} {v : Value} {r : Rcp} (h : RcpW w lo hi v r) (hb : Below B w w') (hB : hi ≤ B) : RcpW w' lo hi v r :=
  h.keep (fun _ _ hp => hb.cell (Nat.lt_of_lt_of_le hp hB)) (Nat.le_refl _) (Nat.le_refl _)
theorem RcpW.zero (w : World) (lo hi : Nat) : RcpW w lo hi zeroV rcpZero := ⟨_, rfl, RdB.nil w lo hi⟩
theorem cell_set4 (w : World) {b : Nat} (x y z u : Value) {p : Addr} (h : p.block ≠ b) : ((((w.setCell ⟨b, 0, none⟩ x).setCell ⟨b, 1, none⟩ y).setCell ⟨b, 2, none⟩ z).setCell ⟨b, 3, none⟩ u).cell? p = w.cell? p := by
  rw [World.cell?_setCell_other _ _ _ _ (by intro e; subst e; exact h rfl), World.cell?_setCell_other _ _ _ _ (by intro e; subst e; exact h rfl), World.cell?_setCell_other _ _ _ _ (by intro e; subst e; exact h rfl), World.cell?_setCell_other _ _ _ _ (by intro e; subst e; exact h rfl)]
end Go.Proofs.YtpanoplcamdnkaaGreatDoor

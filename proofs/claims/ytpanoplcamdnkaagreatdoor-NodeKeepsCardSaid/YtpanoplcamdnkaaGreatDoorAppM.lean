/- append of a slice that is read, of elements of some cells, onto a row of the call's own. No conditions but bounds. -/
import Derived.Test.YtpanoplcamdnkaaGreatDoorRead
import Derived.Maps.AppendAt
import Derived.Laws.OwnMore
import Derived.Deep.RegionLaw
namespace Go.Proofs.YtpanoplcamdnkaaGreatDoor
open Go.RowKit Go.Lib

/-- v is a slice of m elements of 'size' cells that reads as the cells xs, below block B -/
def RdC (w : World) (B size : Nat) (v : Value) (m : Nat) (xs : List Value) : Prop :=
  ∃ A c, v = .slice A m c ∧ xs.length = m * size ∧ m ≤ c ∧ (0 < m → ∃ g o, A = some ⟨g, o, none⟩ ∧ g < B ∧ ∀ k u, xs[k]? = some u → w.cell? ⟨g, o + k, none⟩ = some u)
theorem add_eqM (g o j : Nat) : (⟨g, o, none⟩ : Addr).add j = ⟨g, o + j, none⟩ := by unfold Addr.add; split <;> simp_all
theorem RdC.below {w w' : World} {B size m : Nat} {v : Value} {xs : List Value} (h : RdC w B size v m xs) (hb : Below B w w') : RdC w' B size v m xs := by
  obtain ⟨A, c, hv, hl, hc, hx⟩ := h
  refine ⟨A, c, hv, hl, hc, fun h0 => ?_⟩
  obtain ⟨g, o, hA, hg, hcell⟩ := hx h0
  exact ⟨g, o, hA, hg, fun k u hu => (hb.cell (p := ⟨g, o + k, none⟩) hg).trans (hcell k u hu)⟩
section
variable {P : Program}
theorem run_append_rdM (w : World) (base : Nat) (t ty e : TypeId) (i : TypeInfo) (z : Value) (size bytes : Nat) (ht : P.underlying t = some (.slice e)) (hi : P.info? e = some i) (hz : i.zero = some z)
    (hsize : i.size = size) (hby : i.bytes = bytes) (hzs : z.cells.size = size) (hsz : 0 < size) (v : Value) (n : Nat) (xs : List Value) (hown : w.ownsRow base e size v n xs)
    (B : Nat) (x : Value) (m : Nat) (ns : List Value) (hx : RdC w B size x m ns) (h1 : ∀ u ∈ ns, u.oneCell' = true) (h63 : n + m ≤ maxLen) (hbytes : (n + m) * bytes ≤ 140737488355328) (hbase : base ≤ w.heap.size) :
    ∃ v' w', (Builtin.append_ #[t, t] ty #[v, x]).run P w = .ok v' w' ∧ w'.ownsRow base e size v' (n + m) (xs ++ ns) ∧ w.grownBy w' v.ownBlock := by
  obtain ⟨A, c, rfl, hl, hlc, hc⟩ := hx
  by_cases h0 : m = 0
  · subst h0
    obtain rfl : ns = [] := List.eq_nil_of_length_eq_zero (by omega)
    have hr : (Builtin.append_ #[t, t] ty #[v, .slice A 0 c]).run P w = .ok v w := by
      rcases hown.2 with ⟨rfl, rfl⟩ | ⟨g, cap, cur, rfl, _, _, hnc, _⟩
      · cases A <;> simp [Builtin.append_, run_underlying ht, sizeOf, typeInfo, hi, Builtin.lenOf, Builtin.firstCells, loadCells, loadCellsFrom]
      · cases A <;> simp [Builtin.append_, run_underlying ht, sizeOf, typeInfo, hi, Builtin.lenOf, Builtin.firstCells, hnc, storeCells, loadCells, loadCellsFrom]
    exact ⟨v, w, hr, by rw [List.append_nil]; exact hown, ⟨rfl, rfl, rfl, Nat.le_refl _, fun _ _ _ => rfl⟩⟩
  · obtain ⟨g, o, rfl, hg, hc⟩ := hc (by omega)
    obtain ⟨v', w', hr, h2, h3, _, _⟩ := run_append_own_at (P := P) w base t ty e i z size bytes ht hi hz hsize hby hzs hsz v n xs hown ⟨g, o, none⟩ m c ns hl (fun j u hu => by rw [add_eqM]; exact hc j u hu) h1 h63 hbytes hbase
    exact ⟨v', w', hr, h2, h3⟩
theorem wpList_append_rdM {w : World} {ops : Array Oper} {rest : List Oper} {o : Oper} {a : Act} {Q : Exit → Act → World → Prop} (hgd : o.guard = none) (s x : Operand) (t : TypeId)
    (ho : o.op = .call { callee := .builtin .append, args := #[s, x], argTypes := #[t, t] })
    (base : Nat) (e : TypeId) (i : TypeInfo) (z : Value) (size bytes : Nat) (ht : P.underlying t = some (.slice e)) (hi : P.info? e = some i) (hz : i.zero = some z)
    (hsize : i.size = size) (hby : i.bytes = bytes) (hzs : z.cells.size = size) (hsz : 0 < size)
    (v : Value) (n : Nat) (xs : List Value) (hs : a.eval s = v) (hown : w.ownsRow base e size v n xs)
    (B : Nat) (vx : Value) (m : Nat) (ns : List Value) (hx : a.eval x = vx) (hr : RdC w B size vx m ns) (h1 : ∀ u ∈ ns, u.oneCell' = true) (h63 : n + m ≤ maxLen) (hbytes : (n + m) * bytes ≤ 140737488355328) (hbase : base ≤ w.heap.size)
    (h : ∀ v' w', w'.ownsRow base e size v' (n + m) (xs ++ ns) → w.grownBy w' v.ownBlock → wpList P ops Q rest (a.put o.dst v') w') :
    wpList P ops Q (o :: rest) a w := by
  refine wpList_plain hgd fun K hK => ?_
  obtain ⟨v', w', hr, h2, h3⟩ := run_append_rdM (P := P) w base t o.type e i z size bytes ht hi hz hsize hby hzs hsz v n xs hown B vx m ns hr h1 h63 hbytes hbase
  unfold Oper.wp execOp
  simp only [ho, resolve, invoke, builtin, Sem.run_bind, Sem.run_pure, Result.andThen_ok, List.map_toArray, List.map_cons, List.map_nil, hs, hx, hr]
  exact hK _ _ (h v' w' h2 h3)
end
/-- 's[:k]' -/
theorem RdC.takeM {w : World} {B size n c : Nat} {A : Option Addr} {xs : List Value} (h : RdC w B size (.slice A n c) n xs) (k : Nat) (hk : k ≤ n) : RdC w B size (.slice A k c) k (xs.take (k * size)) := by
  obtain ⟨A', c', hv, hl, hlc, hx⟩ := h
  injection hv with h1 h2 h3
  subst h1; subst h3
  refine ⟨A, c, rfl, by rw [List.length_take, hl]; exact Nat.min_eq_left (Nat.mul_le_mul_right _ hk), by omega, fun h0 => ?_⟩
  obtain ⟨g, o, hA, hg, hc⟩ := hx (by omega)
  refine ⟨g, o, hA, hg, fun j u hu => hc j u ?_⟩
  rw [List.getElem?_take] at hu
  split at hu
  · exact hu
  · cases hu
/-- 's[k:]' as the walk writes it -/
theorem RdC.cutM {w : World} {B size n c : Nat} {A : Option Addr} {xs : List Value} (h : RdC w B size (.slice A n c) n xs) (k : Nat) (hk : k ≤ n) :
    RdC w B size (.slice (if c = k then A else A.map (fun x => x.add (k * size))) (n - k) (c - k)) (n - k) (xs.drop (k * size)) := by
  obtain ⟨A', c', hv, hl, hlc, hx⟩ := h
  injection hv with h1 h2 h3
  subst h1; subst h3
  refine ⟨_, _, rfl, by rw [List.length_drop, hl, Nat.sub_mul], by omega, fun h0 => ?_⟩
  rw [if_neg (by omega)]
  obtain ⟨g, o, rfl, hg, hc⟩ := hx (by omega)
  refine ⟨g, o + k * size, by rw [Option.map_some, add_eqM], hg, fun j u hu => ?_⟩
  rw [List.getElem?_drop] at hu
  rw [Nat.add_assoc]
  exact hc _ u hu
end Go.Proofs.YtpanoplcamdnkaaGreatDoor

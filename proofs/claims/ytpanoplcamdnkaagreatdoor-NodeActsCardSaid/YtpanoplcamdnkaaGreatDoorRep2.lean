/- NdV, NdW, NdX in one text. Conditions: as each part says. -/
import Derived.Test.YtpanoplcamdnkaaGreatDoorNod1
import Derived.Test.YtpanoplcamdnkaaGreatDoorBin2
import Derived.RangeFuncKeeps
import Derived.RangeFuncMany
import Derived.RangeFuncLeaves
import Derived.Sort.MapsRangeIn
import Derived.Sort.KeysCollected
import Derived.OwnWalkIn
import Derived.TacticsInMore
import Derived.RegionIn
import Derived.LoopNIn
import Derived.LoopIn
import Derived.Test.YtpanoplcamdnkaaGreatDoorBnM
import Derived.Shelf.SlSortCmp.WholeK
import Derived.Shelf.SlSortCmp.NoneTotal
import Derived.Lib.OwnBridge
import Derived.RangeFuncNested
import Derived.RangeFuncBox
import Derived.Shelf.Abstract
import Derived.WalkKit
import Derived.Test.YtpanoplcamdnkaaGreatDoorNod3
/- A node's reps: walks of maps.Keys at a map keyed by IDs, of slices.Collect, SortedFunc, SortFunc at IDs. No conditions but bounds. -/
namespace Go.Proofs.YtpanoplcamdnkaaGreatDoor
open Go.RowKit Go.Lib Go.Maps Go.WideMaps Go.Sort Go.Shelf

def keysOf (os : BL) : IdL := os.map (·.1)
set_option maxRecDepth 100000 in
set_option maxHeartbeats 2000000 in
theorem NbKeys1_stops (n : Nat) (hn : 1 ≤ n) (Bm mb : Nat) (L : BL) (hS : AlSrt lesser L) (hL : ∀ p ∈ L, IdOk0 p.1) (w : World) (hBm : Bm < w.heap.size) (hm : w.cell? ⟨Bm, 0, none⟩ = some (.map (some mb))) (hown : AlMap Tryz.prog 47 idLit beV mb L w) :
    SeqStopsK Fence.wide n Tryz.prog 146 #[.pointer (some ⟨Bm, 0, none⟩)] (fun o : Idn => #[idV o]) KeepsWalks (fun os => os.Perm (keysOf L)) (fun _ => True) L.length w := by
  intro l J Jx W hW hJ hJx hY h0
  have hown' : W.ownsMap Tryz.prog 47 rawE mb L.length (alD idLit beV L) := by
    have hbl := hown.blt
    obtain ⟨es, clock, hb, Ft, hs, hD⟩ := hown
    exact ⟨es, clock, (hW.block mb hbl).trans hb, Ft, hs, hD⟩
  have c0 : W.cell? ⟨Bm, 0, none⟩ = some (.map (some mb)) := (hW.cell (p := ⟨Bm, 0, none⟩) hBm).trans hm
  have HS := Lib.hid hS
  have HOK := Lib.hid hL
  have hsz : Maps.size (alD idLit beV L) = L.length := size_alD idLit beV L
  clear hown hm hL hS
  refine callsIn_of_wp Tryz.func146 rfl trivial ?_ rfl
  simp only [Tryz.ntmps146, List.size_toArray, List.length_cons, List.length_nil, Nat.reduceAdd, Nat.reduceSub, Array.replicate_succ, Array.replicate_zero, List.push_toArray, List.append_toArray, List.nil_append, List.cons_append]
  gi_wp2_with (first
    | (gi_at_range; refine wpListIn_range_own _ rfl _ 103 rfl 47 42 lawI Tryz.underlying103 rawE mb L.length (alD idLit beV L) rfl hown' ?_; intro w0 hrg0 hg0 hs0)
    | gi_in)
  try go_frame
  gi_loopw [3] (fun _ wr => ∃ (left : Lit → Bool) (cnt : Nat) (os : BL), wr.ranges Tryz.prog 47 rawE mb W.heap.size L.length (alD idLit beV L) left cnt ∧ os.length + cnt ≤ L.length ∧ AlCame idLit L left os ∧ J (keysOf os) wr)
    (fun _ wr => wr.rangeLeft mb W.heap.size)
  case atStart =>
    exact ⟨_, _, [], hrg0, by rw [hsz]; simp, AlCame.start idEmb beV HOK.out, hJ [] W w0 none h0 hg0 (fun r e => by cases e)⟩
  case round =>
    obtain ⟨left, cnt, os, hrg, hcs, hC, hJs⟩ := hrel
    gi_wp2_with (first
      | (gi_at_next; refine wpListIn_next_ranges _ rfl _ rfl 47 lawI rawE idV id idRd.mk_inv rawE_inv mb W.heap.size L.length (alD idLit beV L) left _ rfl hrg ?_ ?_)
      | gi_in)
    · intro _ hl0
      have HP := Lib.hid ((hC.perm idEmb HS.out hl0).map (·.1))
      clear hl0
      gi_wp2
      go_end0
      exact ⟨⟨_, rfl⟩, .inl ⟨keysOf os, HP.out, hJs⟩⟩
    · intro x1 x2 c kl yd yp w2 cnt2 hkey hlk hv hat hrg2 hlt hg2 hs2 hen
      obtain ⟨rfl, hx, be, hmem, rfl⟩ := al_came (x := (x1, x2)) idRd HOK.out hkey hv hat
      have hJ2 : J (keysOf os) w2 := hJ (keysOf os) wr w2 (some W.heap.size) hJs hg2 (fun r e => by cases e; exact ⟨Nat.le_refl _, hrg.iter_walk⟩)
      have hJ3 : J (keysOf os) (w2.alloc (.cells #[.int .u32 (x1 : Int), .int .i64 x2] 47)) := hJ (keysOf os) w2 _ none hJ2 (World.grownBy_alloc _ _ none) (fun r e => by cases e)
      have hC2 := Lib.hid (hC.step idEmb HS.out HOK.out (o := ((x1, x2), be)) hmem hlk)
      have HRG2 := Lib.hid (hrg2.alloc (.cells #[.int .u32 (x1 : Int), .int .i64 x2] 47))
      obtain ⟨fn, tmps, assign, body, hy, hR⟩ := hY (keysOf os) (x1, x2) _ hJ3 (by unfold keysOf; rw [List.length_map]; omega)
      have HLT := Lib.hid hlt
      clear hkey hlk hv hat hg2 hs2 hx hmem hC hJ2 hJ3
      gi_wp2
      refine hR.mono ?_
      rintro e W3 (⟨rfl, hJ3, hk3⟩ | ⟨rfl, hJx3⟩)
      · gi_wp2
        have hrg3 := HRG2.out.of_walks hk3
        go_roundw
        case rel => exact ⟨_, cnt2, os ++ [((x1, x2), be)], hrg3, by simp; omega, hC2.out, by unfold keysOf at hJ3 ⊢; rw [List.map_append]; exact hJ3⟩
        case measure => rw [hrg3.left_eq, hrg.left_eq]; exact HLT.out
      · gi_wp2
        refine bodyPost_ret (results_none rfl _ _ _) rfl ?_
        exact ⟨⟨_, rfl⟩, .inr ⟨keysOf os ++ [(x1, x2)], trivial, hJx3⟩⟩
end Go.Proofs.YtpanoplcamdnkaaGreatDoor
/- A node's reps: walks of slices.AppendSeq, Collect, SortFunc, SortedFunc at IDs; Reps. No conditions but bounds. -/
namespace Go.Proofs.YtpanoplcamdnkaaGreatDoor
open Go.RowKit Go.Lib Go.Maps Go.WideMaps Go.Sort Go.Shelf

attribute [local go_sem] Oper.semAt_some
/-- a box that holds an ID -/
def IdBox (W : World) (b : Nat) (x : Idn) : Prop := W.heap[b]? = some (.cells #[.int .u32 (x.1 : Int), .int .i64 x.2] 47 (0, 0))
theorem IdBox.own {x : Idn} {b : Nat} {X Y : World} {row : Option Nat} (h : IdBox X b x) (hg : X.grownBy Y row) (hr : ∀ r, row = some r → ∃ o : Obj, X.heap[r]? = some o ∧ o.isCells = false) : IdBox Y b x := by
  refine (hg.block b (Array.getElem?_eq_some_iff.1 h).1 (fun e => ?_)).trans h
  obtain ⟨o, ho, hc⟩ := hr b e.symm
  rw [show X.heap[b]? = _ from h] at ho; cases ho; cases hc
theorem IdBox.cells {x : Idn} {b : Nat} {W : World} (h : IdBox W b x) : W.cell? ⟨b, 0, none⟩ = some (.int .u32 (x.1 : Int)) ∧ W.cell? ⟨b, 1, none⟩ = some (.int .i64 x.2) := by
  refine ⟨?_, ?_⟩ <;> rw [cell_of_row W b _ _ _ _ h] <;> rfl
set_option maxRecDepth 100000 in
set_option maxHeartbeats 2000000 in
theorem IdApSeq_in (n : Nat) (hn : 2 ≤ n) (Bm mb : Nat) (L : BL) (hS : AlSrt lesser L) (hK : ∀ p ∈ L, IdOk0 p.1) (hl : L.length ≤ 1000000) (w : World) (hBm : Bm < w.heap.size) (hm : w.cell? ⟨Bm, 0, none⟩ = some (.map (some mb))) (hown : AlMap Tryz.prog 47 idLit beV mb L w) :
    CallsIn Fence.wide n Tryz.prog 189 #[.slice none 0 0, .func (.func 146) #[] #[.pointer (some ⟨Bm, 0, none⟩)]] w fun e W' => ∃ v os, e = .returned v ∧ os.Perm (keysOf L) ∧ W'.ownsRow w.heap.size 47 2 v os.length (idRow os) ∧ Below w.heap.size w W' := by
  obtain ⟨i0, hi, hz0, hz1, hz2⟩ := info_parts info_idI
  have h1 : 1 ≤ n := by omega
  refine callsIn_of_wp_marks Tryz.func189 rfl trivial ?_ rfl
  simp only [Tryz.ntmps189, List.size_toArray, List.length_cons, List.length_nil, Nat.reduceAdd, Nat.reduceSub, Array.replicate_succ, Array.replicate_zero, List.push_toArray, List.append_toArray, List.nil_append, List.cons_append]
  gi_wp2
  have bO := Boxed.new w 44 (.slice none 0 0)
  have hB0 : Below w.heap.size w (w.alloc (.cells #[.slice none 0 0] 44)) := (Below.refl _ w).alloc (Nat.le_refl _) _
  have hst := NbKeys1_stops (n - 1) (by omega) Bm mb L hS hK (w.alloc (.cells #[.slice none 0 0] 44)) (by simp; omega) ((hB0.cell (p := ⟨Bm, 0, none⟩) hBm).trans hm) (hown.below hB0)
  refine wpIn_rangeFunc_ownH wide_round h1 (gf := 146) (lb := #[.pointer (some ⟨Bm, 0, none⟩)]) rfl trivial (enters_of Tryz.func146 (by kernel_rfl) rfl)
    hst walksK_t walksK_b (Below.refl _ _) (fun _ => rfl)
    (fun (pre : IdL) W => (∃ v, Boxed W w.heap.size 44 v ∧ W.ownsRow w.heap.size 47 2 v pre.length (idRow pre) ∧ True) ∧ Below w.heap.size w W)
    (fun _ _ _ => False)
    (OwnFrom.and (Own.from (holdsRow_own w.heap.size w.heap.size 44 47 2 (fun pre : IdL => pre.length) idRow (fun (_ : IdL) _ => True)) _) (ownFrom_below (Nat.le_refl _) (by simp)))
    (fun _ _ _ _ _ hs _ _ => hs)
    ⟨⟨_, bO, World.ownsRow_nil _ _ _ _, trivial⟩, hB0⟩
    (fun x a' W => ∃ Bx, w.heap.size < Bx ∧ IdBox W Bx x ∧ a' = { tmps := #[.slice none 0 0, .func (.func 146) #[] #[.pointer (some ⟨Bm, 0, none⟩)], .pointer (some ⟨w.heap.size, 0, none⟩), undef, .slice none 0 0, .pointer (some ⟨Bx, 0, none⟩), .func (.func 146) #[] #[.pointer (some ⟨Bm, 0, none⟩)], idV x, undef, undef, undef, undef, undef], defers := [] })
    (fun x a' _ X Y row hs hg hr => by obtain ⟨Bx, h1, h2, h3⟩ := hs; exact ⟨Bx, h1, h2.own hg (fun r e => (hr r e).2), h3⟩)
    ?assign ?body ?done ?stop
  case assign =>
    rintro l pre x W K ⟨⟨v, hv, hrow, _⟩, hB⟩ hKK
    have hlt := hv.lt
    have hnew : IdBox (W.alloc (.cells #[.int .u32 (x.1 : Int), .int .i64 x.2] 47)) W.heap.size x := World.alloc_heap_new W _
    gi_wp2
    exact hKK _ _ ((KeepsOthers.alloc _ _).from _) (KeepsWalks.alloc _ _) ⟨⟨_, hv.alloc _, hrow.alloc _, trivial⟩, hB.alloc hB.size _⟩ ⟨W.heap.size, hlt, hnew, rfl⟩
  case body =>
    rintro l pre x a' W hl' _ ⟨⟨v, hv, hrow, _⟩, hB⟩ ⟨Bx, hBx, hX, rfl⟩ hlt
    have hc := hv.cell
    obtain ⟨c0, c1⟩ := hX.cells
    gi_wp2_with (gi_at_builtin; refine wpListIn_append_own _ rfl _ _ 44 rfl w.heap.size 47 i0 (.agg #[.int .u32 0, .int .i64 0]) 2 16 Tryz.underlying44 hi hz0 hz1 hz2 rfl (by decide) _ _ _ rfl (hrow.alloc _) ⟨W.heap.size, 0, none⟩ 1 1 (idCells x) rfl rfl (cell_newI _ _ _ _) (by simp [idCells, Value.oneCell']) (by unfold maxLen; omega) (by omega) (by have := hB.size; simp; omega) ?_; intro v' w1 hown' hgrow _; obtain ⟨g', cap', rfl⟩ := ownsRow_succ hown'; obtain ⟨hv1, hv2, hr2, hk2, hb2⟩ := hv.appended (by decide) hrow hB.size (Nat.le_refl _) hown' hgrow; have hc1 := hv1.cell; have hf1 := hv1.frozen)
    exact ⟨hk2.from _, hk2.walks, ⟨_, hv2, by rw [idRow_snoc, List.length_append]; exact hr2, trivial⟩, hB.trans hb2⟩
  case done =>
    rintro D ys W hD hys ⟨⟨v, hv, hrow, _⟩, hB⟩ hK
    have hc := hv.cell
    gi_wp2
    refine ⟨by simp, .inl ⟨_, _, rfl, run_takeDeferred hK, ?_⟩⟩
    refine ⟨_, results_tmp rfl _ _ _, v, ys, rfl, hys, ?_, hB.trans (belowK_b (w := w) (Nat.le_refl _) W D _ _ (by simp at hD; omega) hK rfl rfl)⟩
    exact ownsRow_putObj hrow (.deferred none) hK rfl
  case stop =>
    rintro D c pre W _ _ h _
    exact h.elim
theorem flat_id (os : IdL) : flatK idCells 2 os.toArray = (idRow os).toArray := by
  refine ext_get! (by simp [idRow_length]) fun t ht => ?_
  have ht' : t < os.length * 2 := by simpa using ht
  have hd : t / 2 < os.length := by omega
  rw [get_flatK _ _ _ t (by simpa using ht')]
  have h1 := idRow_at os (t / 2) hd (t % 2) (Nat.mod_lt _ (by decide))
  rw [show t / 2 * 2 + t % 2 = t by omega] at h1
  have h2 : (idRow os).toArray[t]! = ((idRow os)[t]?).getD default := by simp [Array.getElem!_eq_getD, Array.getD_eq_getD_getElem?]
  rw [h2, h1]
  simp [List.getElem!_eq_getElem?_getD, getElem!_pos, hd]
theorem holdsK_ownI {w : World} {base g n cap : Nat} {os : IdL} (h : w.ownsRow base 47 2 (.slice (some ⟨g, 0, none⟩) n cap) n (idRow os)) : HoldsK idCells 2 w g 0 os.toArray := by
  show Holds id w g 0 (flatK idCells 2 os.toArray)
  rw [flat_id]
  intro j hj
  have hj' : j < (idRow os).length := by simpa using hj
  have hl := h.1
  rw [Nat.zero_add]
  refine ⟨?_, h.frozenAt j⟩
  rw [h.cellAt j (by omega), List.getElem?_eq_getElem hj']
  simp [getElem!_pos, hj']
theorem own_putRowKI {w : World} {base g n cap q : Nat} {zs : List Value} {ys : IdL} (h : w.ownsRow base 47 2 (.slice (some ⟨g, 0, none⟩) n cap) n zs) (hy : ys.length = n) :
    (putRowK idCells 2 (Sort.ahead w q) g 0 ys.toArray).ownsRow base 47 2 (.slice (some ⟨g, 0, none⟩) n cap) n (idRow ys) := by
  unfold putRowK
  rw [flat_id]
  rcases h.2 with ⟨e0, _⟩ | ⟨g', cap', cur, e0, hb, hg, hn, hm, hs, ht⟩
  · cases e0
  · injection e0 with e1 _ e3
    injection e1 with e1
    injection e1 with e1
    subst e1; subst e3
    have hz := idRow_length ys
    refine ⟨by rw [hz, hy], .inr ⟨g, cap, putCells id 0 (idRow ys).toArray cur, rfl, hb, ?_, hn, hm, by simpa [putCells] using hs, ?_⟩⟩
    · simp [putRow, mapBlock, Sort.ahead, Array.getElem?_modify, hg, onCells]
    · apply List.ext_getElem?
      intro j
      rw [List.getElem?_take, Array.getElem?_toList]
      by_cases hj : j < n * 2
      · have hjc : j < cur.size := by omega
        have hjz : j < (idRow ys).length := by omega
        simp only [if_pos hj, putCells, Array.getElem?_mapIdx, Array.getElem?_eq_getElem hjc, Option.map_some]
        rw [if_pos (by simp; omega), List.getElem?_eq_getElem hjz]
        simp [getElem!_pos, hjz]
      · rw [if_neg hj, List.getElem?_eq_none (by omega)]
theorem sorted_id : ∀ {L M : IdL}, L.Pairwise (fun a b => lesser a b = true) → M.Perm L → M.Pairwise (fun a b => lesser b a = false) → M = L
  | [], M, _, hp, _ => List.Perm.eq_nil hp
  | x :: r, [], _, hp, _ => absurd hp.symm.eq_nil (by simp)
  | x :: r, y :: m, hs, hp, hm => by
    obtain ⟨h1, h2⟩ := List.pairwise_cons.1 hs
    obtain ⟨m1, m2⟩ := List.pairwise_cons.1 hm
    have hxy : y = x := by
      have hx : x ∈ y :: m := hp.symm.subset List.mem_cons_self
      have hy : y ∈ x :: r := hp.subset List.mem_cons_self
      rcases List.mem_cons.1 hx with e | hx
      · exact e.symm
      · rcases List.mem_cons.1 hy with e | hy
        · exact e
        · have a1 := h1 y hy
          have a2 := m1 x hx
          rw [a1] at a2; cases a2
    subst hxy
    rw [sorted_id h2 (List.Perm.cons_inv hp) m2]
def cfI (x y : Idn) : Int := cmpId x.1 y.1 x.2 y.2
theorem ltOf_cfI (x y : Idn) : ltOf cfI x y = lesser x y := cmpId_less _ _ _ _
theorem swo_cfI : SWO (ltOf cfI) := ⟨fun x => by rw [ltOf_cfI, lesser_irrefl], fun x y z h1 h2 => by rw [ltOf_cfI] at *; exact lesser_trans h1 h2, fun x y z h1 h2 => by
  rw [ltOf_cfI] at *
  have h3 : ¬ lesser x y = true := by rw [h1]; simp
  have h4 : ¬ lesser y z = true := by rw [h2]; simp
  rw [lesser_true] at h3 h4
  rw [Bool.eq_false_iff, Ne, lesser_true]
  omega⟩
theorem IdSort_any (base g cap : Nat) (L os : IdL) (hS : L.Pairwise (fun a b => lesser a b = true)) (hp : os.Perm L) (hl : L.length ≤ 1000000) (w0 w : World) (ho : w.ownsRow base 47 2 (.slice (some ⟨g, 0, none⟩) os.length cap) os.length (idRow os)) (hB : Below base w0 w) (hbase : base ≤ w.heap.size) :
    Calls Tryz.prog 145 #[.slice (some ⟨g, 0, none⟩) os.length cap, .func (.func 70) #[] #[]] w fun e w' => e = .returned (.tuple #[]) ∧ w'.ownsRow base 47 2 (.slice (some ⟨g, 0, none⟩) os.length cap) L.length (idRow L) ∧ Below base w0 w' := by
  have hlen : os.length = L.length := hp.length_eq
  have hgl : g < w.heap.size ∧ base ≤ g := by
    rcases ho.2 with ⟨e0, _⟩ | ⟨g', cap', cur, e0, hb, hg, _⟩
    · cases e0
    · injection e0 with e1 _ _
      injection e1 with e1
      injection e1 with e1
      subst e1
      exact ⟨(Array.getElem?_eq_some_iff.1 hg).1, hb⟩
  refine (AnyQ.slices_SortFunc (P := Tryz.prog) Tryz.sortf145 2 Tryz.isAgg47 Tryz.sizeOf47 idCells (fun _ => rfl) (fun x v hv => by simp only [idCells, List.mem_cons, List.not_mem_nil, or_false] at hv; rcases hv with rfl | rfl <;> rfl) cfI swo_cfI 70 #[] g 0 cap os.toArray w
    (enters_of Tryz.func70 (by kernel_rfl) rfl) (fun m os' dk _ x y => PCompare_grows x.1 y.1 x.2 y.2 _) (holdsK_ownI ho) hgl.1 (by simp; omega)).mono ?_
  rintro e w' ⟨rfl, d', n, os', hpm, hst, rfl⟩
  obtain ⟨hsz, _, hpe⟩ := hpm
  have hsz' : d'.toList.length = os.length := by simpa using hsz
  have hpe' : d'.toList.Perm os := by
    have e1 : d'.extract 0 os.toArray.size = d' := by rw [← hsz]; simp
    have e2 : os.toArray.extract 0 os.toArray.size = os.toArray := by simp
    rw [e1, e2] at hpe
    simpa using hpe
  have hso : d'.toList.Pairwise (fun a b => lesser b a = false) := by
    rw [List.pairwise_iff_getElem]
    intro i j hi hj hij
    have := hst i j (Nat.zero_le _) hij (by have := hsz'; rw [List.size_toArray]; omega)
    rw [ltOf_cfI] at this
    simpa [getElem!_pos, show i < d'.size by simpa using hi, show j < d'.size by simpa using hj] using this
  have hd : d'.toList = L := sorted_id hS (hpe'.trans hp) hso
  have hda : d' = L.toArray := by rw [← hd]
  subst hda
  have h1 := own_putRowKI (q := n) ho (ys := L) (by omega)
  have h2 : (sortWorldK idCells 2 w g 0 n L.toArray os').ownsRow base 47 2 (.slice (some ⟨g, 0, none⟩) os.length cap) os.length (idRow L) := own_belowI h1 (Lib.below_grow _ _ (Nat.le_refl _) 0 os')
  refine ⟨rfl, by rw [← hlen]; exact h2, ?_⟩
  have hbp := below_putRow (enc := id) (q := n) (d := flatK idCells 2 L.toArray) hB hgl.2
  exact hbp.trans ((Lib.below_grow _ _ (Nat.le_refl _) 0 os').mono (Nat.le_trans hbase (by simp [putRow, mapBlock, Sort.ahead])))
theorem IdApSeq_any (Bm mb : Nat) (L : BL) (hS : AlSrt lesser L) (hK : ∀ p ∈ L, IdOk0 p.1) (hl : L.length ≤ 1000000) (w : World) (hBm : Bm < w.heap.size) (hm : w.cell? ⟨Bm, 0, none⟩ = some (.map (some mb))) (hown : AlMap Tryz.prog 47 idLit beV mb L w) :
    Calls Tryz.prog 189 #[.slice none 0 0, .func (.func 146) #[] #[.pointer (some ⟨Bm, 0, none⟩)]] w fun e W' => ∃ v os, e = .returned v ∧ os.Perm (keysOf L) ∧ W'.ownsRow w.heap.size 47 2 v os.length (idRow os) ∧ Below w.heap.size w W' :=
  callsIn_wide.1 (IdApSeq_in 2 (Nat.le_refl _) Bm mb L hS hK hl w hBm hm hown)
theorem IdColl_any (Bm mb : Nat) (L : BL) (hS : AlSrt lesser L) (hK : ∀ p ∈ L, IdOk0 p.1) (hl : L.length ≤ 1000000) (w : World) (hBm : Bm < w.heap.size) (hm : w.cell? ⟨Bm, 0, none⟩ = some (.map (some mb))) (hown : AlMap Tryz.prog 47 idLit beV mb L w) :
    Calls Tryz.prog 144 #[.func (.func 146) #[] #[.pointer (some ⟨Bm, 0, none⟩)]] w fun e W' => ∃ v os, e = .returned v ∧ os.Perm (keysOf L) ∧ W'.ownsRow w.heap.size 47 2 v os.length (idRow os) ∧ Below w.heap.size w W' := by
  have AP := Lib.hid (IdApSeq_any Bm mb L hS hK hl w hBm hm hown)
  clear hS hK hm hown
  go_enter Tryz.func144, Tryz.ntmps144
  go_wp2_with fail
  refine AP.out.mono ?_
  rintro e w1 ⟨v, os, rfl, hp, ho, hb⟩
  obtain ⟨A, c, hv⟩ := own_formI ho
  subst hv
  have HP := Lib.hid hp
  have HO := Lib.hid ho
  have HB := Lib.hid hb
  clear hp ho hb
  go_wp2
  go_ret
  exact ⟨_, os, rfl, HP.out, HO.out, HB.out⟩
def IdsPost (L : IdL) (w : World) (e : Ending) (W' : World) : Prop := ∃ v, e = .returned v ∧ W'.ownsRow w.heap.size 47 2 v L.length (idRow L) ∧ Below w.heap.size w W'
set_option maxRecDepth 100000 in
theorem IdSorted_any (Bm mb : Nat) (L : BL) (hS : AlSrt lesser L) (hK : ∀ p ∈ L, IdOk0 p.1) (hl : L.length ≤ 1000000) (w : World) (hBm : Bm < w.heap.size) (hm : w.cell? ⟨Bm, 0, none⟩ = some (.map (some mb))) (hown : AlMap Tryz.prog 47 idLit beV mb L w) :
    Calls Tryz.prog 93 #[.func (.func 146) #[] #[.pointer (some ⟨Bm, 0, none⟩)], .func (.func 70) #[] #[]] w (IdsPost (keysOf L) w) := by
  have AP := Lib.hid (IdColl_any Bm mb L hS hK hl w hBm hm hown)
  have HOK : Hid ((keysOf L).Pairwise (fun a b => lesser a b = true)) := Lib.hid (List.pairwise_map.2 hS)
  have hkl : (keysOf L).length = L.length := List.length_map _
  clear hS hK hm hown
  go_enter Tryz.func93, Tryz.ntmps93
  go_wp2_with fail
  refine AP.out.mono ?_
  rintro e w1 ⟨v, os, rfl, hp, ho, hb⟩
  have hlen := hp.length_eq
  have HP := Lib.hid hp
  have HO := Lib.hid ho
  have HB := Lib.hid hb
  rcases ho.2 with ⟨rfl, h0⟩ | ⟨g, cap, cur, rfl, _⟩
  · have hL0 : keysOf L = [] := List.eq_nil_of_length_eq_zero (by omega)
    have ho0 : os = [] := List.eq_nil_of_length_eq_zero h0
    have NO : Hid (Calls Tryz.prog 145 #[.slice none 0 0, .func (.func 70) #[] #[]] w1 fun e w' => e = .returned (.tuple #[]) ∧ w' = w1) := Lib.hid (AnyF.slices_SortFunc_none (P := Tryz.prog) Tryz.sortf145 none 0 (.func (.func 70) #[] #[]) w1)
    have HQ : Hid (IdsPost (keysOf L) w (.returned (.slice none 0 0)) w1) := Lib.hid ⟨_, rfl, by rw [hL0]; exact World.ownsRow_nil _ _ _ _, HB.out⟩
    clear hp ho hb hL0 ho0 h0 hlen hkl
    go_wp2_with fail
    have NO' := NO.out
    clear NO
    refine Calls.mono NO' (fun e w2 h => ?_)
    obtain ⟨he, hw⟩ := h
    subst he
    subst hw
    go_wp2
    go_ret
    exact HQ.out
  · have SO := Lib.hid (IdSort_any w.heap.size g cap (keysOf L) os HOK.out hp (by omega) w w1 ho hb hb.size)
    clear hp ho hb hlen hkl
    go_wp2_with fail
    refine SO.out.mono ?_
    rintro e w2 ⟨rfl, ho2, hb2⟩
    have HQ : Hid (IdsPost (keysOf L) w (.returned (.slice (some ⟨g, 0, none⟩) os.length cap)) w2) := Lib.hid ⟨_, rfl, ho2, hb2⟩
    clear ho2 hb2
    go_wp2
    go_ret
    exact HQ.out
theorem NbKeys_any (mb : Nat) (w : World) : Calls Tryz.prog 94 #[.map (some mb)] w fun e w' => e = .returned (.func (.func 146) #[] #[.pointer (some ⟨w.heap.size, 0, none⟩)]) ∧ w' = w.alloc (.cells #[.map (some mb)] 103) := by
  go_enter Tryz.func94, Tryz.ntmps94
  go_wp2
  go_ret
  exact ⟨rfl, rfl⟩
set_option maxRecDepth 100000 in
theorem NdReps_raw (n fm bm : Nat) (F : FL) (B : BL) (hS : AlSrt lesser B) (hK : ∀ p ∈ B, IdOk0 p.1) (hl : B.length ≤ 1000000) (w : World) (hN : ONode n fm bm F B w) :
    Calls Tryz.prog 47 #[.pointer (some ⟨n, 0, none⟩)] w (IdsPost (keysOf B) w) := by
  have c1 := hN.c1
  have hb1 : Below w.heap.size w (w.alloc (.cells #[.map (some bm)] 103)) := (Below.refl _ w).alloc (Nat.le_refl _) _
  have SO := Lib.hid (IdSorted_any w.heap.size bm B hS hK hl (w.alloc (.cells #[.map (some bm)] 103)) (by simp) (by rw [World.cell?_alloc_at _ _ _ _ rfl]; rfl) (hN.bins.below hb1))
  have HB1 := Lib.hid hb1
  clear hb1 hN hS hK
  go_enter Tryz.func47, Tryz.ntmps47
  go_wp2_with fail
  refine (NbKeys_any bm w).mono ?_
  rintro e w1 ⟨rfl, rfl⟩
  go_wp2_with fail
  refine SO.out.mono ?_
  rintro e w2 ⟨v, rfl, ho, hb⟩
  obtain ⟨A, c, hv⟩ := own_formI ho
  subst hv
  have HQ : Hid (IdsPost (keysOf B) w (.returned (.slice A (keysOf B).length c)) w2) := Lib.hid ⟨_, rfl, own_lower ho (by simp), HB1.out.trans (hb.mono HB1.out.size)⟩
  clear ho hb
  go_wp2
  go_ret
  exact HQ.out
end Go.Proofs.YtpanoplcamdnkaaGreatDoor
/- A node by what it is: Reps; files and bins by places. Conditions: as named. -/
namespace Go.Proofs.YtpanoplcamdnkaaGreatDoor
open Go.RowKit Go.Lib Go.Maps Go.WideMaps

def repsN (P : PNode) : IdL := P.bins.map (·.1)
theorem Node.repsW {n : Nat} {P : PNode} {f : Foot} (hP : NodeW P) (w : World) (h : Node n P f w) :
    Calls Tryz.prog 47 #[.pointer (some ⟨n, 0, none⟩)] w (IdsPost (repsN P) w) := by
  obtain ⟨fm, bm, F, B, ho, rfl, rfl⟩ := h.at
  have hk : repsN (plainNode F B) = keysOf B := by unfold repsN plainNode alMap keysOf; rw [List.map_map]; rfl
  rw [hk]
  refine NdReps_raw n fm bm F B (alMap_srt.1 hP.bsrt) (ONode.keysBW hP) ?_ w ho
  have := hP.blen
  have hb : (plainNode F B).bins.length = B.length := alMap_length _ _
  omega
end Go.Proofs.YtpanoplcamdnkaaGreatDoor

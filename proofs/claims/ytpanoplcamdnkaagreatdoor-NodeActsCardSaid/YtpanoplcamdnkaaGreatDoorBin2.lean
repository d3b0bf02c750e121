/- BnV, BnW, BnX, BnY, BnZ in one text. Conditions: as each part says. -/
import Derived.Test.YtpanoplcamdnkaaGreatDoorBin1
import Derived.RangeFuncKeeps
import Derived.RangeFuncMany
import Derived.RangeFuncLeaves
import Derived.Sort.MapsRangeIn
import Derived.Sort.KeysCollected
import Derived.OwnWalkIn
import Derived.TacticsInMore
import Derived.RegionIn
import Derived.LoopNIn
import Derived.LoopIn
import Derived.Test.YtpanoplcamdnkaaGreatDoorHlds
import Derived.RangeFuncNested
import Derived.RangeFuncBox
import Derived.Shelf.Abstract
import Derived.WalkKit
import Derived.Test.YtpanoplcamdnkaaGreatDoorCmpT
import Derived.Sort.Grow
import Derived.Test.YtpanoplcamdnkaaGreatDoorBnM
import Derived.Shelf.SlSortCmp.WholeK
import Derived.Lib.OwnBridge
import Derived.Shelf.SlSortCmp.NoneTotal
/- bins in memory: the library's maps.Values at a bin's map: its iterator hands the pieces over, each once, in some order. No conditions. -/
namespace Go.Proofs.YtpanoplcamdnkaaGreatDoor
open Go.RowKit Go.Lib Go.Maps Go.WideMaps Go.Sort

/-- what has come of a range over a bin's map: these, in this order -/
def CameB (L : HldL) (left : Lit → Bool) (os : HldL) : Prop := os.Nodup ∧ ∀ o, o ∈ os ↔ o ∈ L ∧ left (idLit o.id) = false
theorem CameB.start {L : HldL} (hL : ∀ y ∈ L, IdOk y.id) : CameB L (Maps.has (dataB L)) [] := ⟨List.nodup_nil, fun o => ⟨fun h => absurd h List.not_mem_nil, fun ⟨h, hl⟩ => by
  rw [has_dataB hL (hL o h)] at hl
  cases hg : getB L o.id with
  | some _ => rw [hg] at hl; cases hl
  | none => exact absurd rfl (getB_none.1 hg o h)⟩⟩
theorem srtB_inj {L : HldL} (hs : SrtB L) {x y : Hld} (hx : x ∈ L) (hy : y ∈ L) (h : x.id = y.id) : x = y := by
  induction L with
  | nil => cases hx
  | cons z r ih =>
    obtain ⟨h1, h2⟩ := srtB_cons.1 hs
    rcases List.mem_cons.1 hx with e1 | hx'
    · rcases List.mem_cons.1 hy with e2 | hy'
      · rw [e1, e2]
      · rw [e1] at h; exact absurd h (lesser_ne (h1 y hy'))
    · rcases List.mem_cons.1 hy with e2 | hy'
      · rw [e2] at h; exact absurd h.symm (lesser_ne (h1 x hx'))
      · exact ih h2 hx' hy'
theorem srtB_nodup {L : HldL} (hs : SrtB L) : L.Nodup := hs.imp fun h e => by subst e; exact lesser_ne h rfl
theorem CameB.step {L : HldL} {left : Lit → Bool} {os : HldL} (h : CameB L left os) (hs : SrtB L) (hL : ∀ y ∈ L, IdOk y.id) {o : Hld} (ho : o ∈ L) (hl : left (idLit o.id) = true) :
    CameB L (fun z => left z && !z.sameKey (idLit o.id)) (os ++ [o]) := by
  have hno : o ∉ os := fun hm => by have := ((h.2 o).1 hm).2; rw [hl] at this; cases this
  refine ⟨List.nodup_append.2 ⟨h.1, by simp, fun a ha b hb e => by rw [List.mem_singleton.1 hb] at e; rw [e] at ha; exact hno ha⟩, fun y => ?_⟩
  rw [List.mem_append, List.mem_singleton, h.2 y]
  constructor
  · rintro (⟨h1, h2⟩ | rfl)
    · exact ⟨h1, by show (left (idLit y.id) && _) = false; rw [h2]; rfl⟩
    · exact ⟨ho, by show (left (idLit y.id) && !(idLit y.id).sameKey (idLit y.id)) = false; rw [idLit_same (hL y ho) (hL y ho)]; simp⟩
  · rintro ⟨h1, h2⟩
    cases hly : left (idLit y.id) with
    | false => exact .inl ⟨h1, rfl⟩
    | true =>
      right
      have h2 : (left (idLit y.id) && !(idLit y.id).sameKey (idLit o.id)) = false := h2
      rw [hly, idLit_same (hL y h1) (hL o ho)] at h2
      exact srtB_inj hs h1 ho (by simpa using h2)
theorem CameB.perm {L : HldL} {left : Lit → Bool} {os : HldL} (h : CameB L left os) (hs : SrtB L) (hl : ∀ kl, left kl = false) : os.Perm L :=
  (List.perm_ext_iff_of_nodup h.1 (srtB_nodup hs)).2 fun o => by rw [h.2 o, hl]; simp
set_option maxRecDepth 100000 in
set_option maxHeartbeats 2000000 in
theorem BnVals1_stops (n : Nat) (hn : 1 ≤ n) (Bm mb : Nat) (L : HldL) (m : Int) (hL : BinOk m L) (w : World) (hBm : Bm < w.heap.size) (hm : w.cell? ⟨Bm, 0, none⟩ = some (.map (some mb))) (hown : w.ownsMap Tryz.prog 47 hldElem mb L.length (dataB L)) :
    SeqStopsK Fence.wide n Tryz.prog 118 #[.pointer (some ⟨Bm, 0, none⟩)] (fun o => #[hldV o]) KeepsWalks (fun os => os.Perm L) (fun _ => True) L.length w := by
  intro l J Jx W hW hJ hJx hY h0
  have hown' : W.ownsMap Tryz.prog 47 hldElem mb L.length (dataB L) := by
    have hbl := hown.lt
    obtain ⟨es, clock, hb, Ft, hs, hD⟩ := hown
    exact ⟨es, clock, (hW.block mb hbl).trans hb, Ft, hs, hD⟩
  have c0 : W.cell? ⟨Bm, 0, none⟩ = some (.map (some mb)) := (hW.cell (p := ⟨Bm, 0, none⟩) hBm).trans hm
  have HOK := Lib.hid hL
  have hsz : Maps.size (dataB L) = L.length := size_dataB L
  clear hown hm hL
  refine callsIn_of_wp Tryz.func118 rfl trivial ?_ rfl
  simp only [Tryz.ntmps118, List.size_toArray, List.length_cons, List.length_nil, Nat.reduceAdd, Nat.reduceSub, Array.replicate_succ, Array.replicate_zero, List.push_toArray, List.append_toArray, List.nil_append, List.cons_append]
  gi_wp2_with (first
    | (gi_at_range; refine wpListIn_range_own _ rfl _ 117 rfl 47 82 lawI Tryz.underlying117 hldElem mb L.length (dataB L) rfl hown' ?_; intro w0 hrg0 hg0 hs0)
    | gi_in)
  try go_frame
  gi_loopw [4] (fun _ wr => ∃ (left : Lit → Bool) (cnt : Nat) (os : HldL), wr.ranges Tryz.prog 47 hldElem mb W.heap.size L.length (dataB L) left cnt ∧ os.length + cnt ≤ L.length ∧ CameB L left os ∧ J os wr)
    (fun _ wr => wr.rangeLeft mb W.heap.size)
  case atStart =>
    exact ⟨_, _, [], hrg0, by rw [hsz]; simp, CameB.start HOK.out.idok, hJ [] W w0 none h0 hg0 (fun r e => by cases e)⟩
  case round =>
    obtain ⟨left, cnt, os, hrg, hcs, hC, hJs⟩ := hrel
    gi_wp2_with (first
      | (gi_at_next; refine wpListIn_next_ranges _ rfl _ rfl 47 lawI hldElem idV hldV mkI_inv mkH_inv mb W.heap.size L.length (dataB L) left _ rfl hrg ?_ ?_)
      | gi_in)
    · intro _ hl0
      have HP := Lib.hid (hC.perm HOK.out.srt hl0)
      clear hl0
      gi_wp2
      go_end0
      exact ⟨⟨_, rfl⟩, .inl ⟨os, HP.out, hJs⟩⟩
    · intro x1 x2 o kl yd yp w2 cnt2 hkey hlk hv hat hrg2 hlt hg2 hs2 hen
      obtain ⟨hx, rfl, hmem, hox, rfl⟩ := came (x := (x1, x2)) HOK.out.idok hkey hv hat
      rw [← hox] at hx hkey hlk hat hrg2 hen ⊢
      clear hox
      have hJ2 : J os w2 := hJ os wr w2 (some W.heap.size) hJs hg2 (fun r e => by cases e; exact ⟨Nat.le_refl _, hrg.iter_walk⟩)
      have hJ3 : J os (w2.alloc (.cells #[.int .u32 (o.id.1 : Int), .int .i64 o.id.2, .int .i64 o.uses, .string (bs o.text)] 82)) := hJ os w2 _ none hJ2 (World.grownBy_alloc _ _ none) (fun r e => by cases e)
      have hC2 := Lib.hid (hC.step HOK.out.srt HOK.out.idok hmem hlk)
      have HRG2 := Lib.hid (hrg2.alloc (.cells #[.int .u32 (o.id.1 : Int), .int .i64 o.id.2, .int .i64 o.uses, .string (bs o.text)] 82))
      obtain ⟨fn, tmps, assign, body, hy, hR⟩ := hY os o _ hJ3 (by omega)
      have HLT := Lib.hid hlt
      clear hkey hlk hv hat hg2 hs2 hx hmem hC hJ2 hJ3
      gi_wp2
      refine hR.mono ?_
      rintro e W3 (⟨rfl, hJ3, hk3⟩ | ⟨rfl, hJx3⟩)
      · gi_wp2
        have hrg3 := HRG2.out.of_walks hk3
        go_roundw
        case rel => exact ⟨_, cnt2, os ++ [o], hrg3, by simp; omega, hC2.out, hJ3⟩
        case measure => rw [hrg3.left_eq, hrg.left_eq]; exact HLT.out
      · gi_wp2
        refine bodyPost_ret (results_none rfl _ _ _) rfl ?_
        exact ⟨⟨_, rfl⟩, .inr ⟨os ++ [o], trivial, hJx3⟩⟩
end Go.Proofs.YtpanoplcamdnkaaGreatDoor
/- bins in memory: slices.AppendSeq, slices.Collect at the iterator over a bin's map. No conditions but bounds. -/
namespace Go.Proofs.YtpanoplcamdnkaaGreatDoor
open Go.RowKit Go.Lib Go.Maps Go.WideMaps Go.Sort Go.Shelf

attribute [local go_sem] Oper.semAt_some
/-- a box that holds a piece -/
def HldBox (W : World) (b : Nat) (x : Hld) : Prop := W.heap[b]? = some (.cells #[.int .u32 (x.id.1 : Int), .int .i64 x.id.2, .int .i64 x.uses, .string (bs x.text)] 82 (0, 0))
theorem HldBox.own {x : Hld} {b : Nat} {X Y : World} {row : Option Nat} (h : HldBox X b x) (hg : X.grownBy Y row) (hr : ∀ r, row = some r → ∃ o : Obj, X.heap[r]? = some o ∧ o.isCells = false) : HldBox Y b x := by
  refine (hg.block b (Array.getElem?_eq_some_iff.1 h).1 (fun e => ?_)).trans h
  obtain ⟨o, ho, hc⟩ := hr b e.symm
  rw [show X.heap[b]? = _ from h] at ho; cases ho; cases hc
theorem HldBox.cells {x : Hld} {b : Nat} {W : World} (h : HldBox W b x) : W.cell? ⟨b, 0, none⟩ = some (.int .u32 (x.id.1 : Int)) ∧ W.cell? ⟨b, 1, none⟩ = some (.int .i64 x.id.2) ∧ W.cell? ⟨b, 2, none⟩ = some (.int .i64 x.uses) ∧ W.cell? ⟨b, 3, none⟩ = some (.string (bs x.text)) := by
  refine ⟨?_, ?_, ?_, ?_⟩ <;> rw [cell_of_row W b _ _ _ _ h] <;> rfl
set_option maxRecDepth 100000 in
set_option maxHeartbeats 2000000 in
theorem BnApSeq_in (n : Nat) (hn : 2 ≤ n) (Bm mb : Nat) (L : HldL) (m : Int) (hL : BinOk m L) (hl : L.length ≤ 1000000) (w : World) (hBm : Bm < w.heap.size) (hm : w.cell? ⟨Bm, 0, none⟩ = some (.map (some mb))) (hown : w.ownsMap Tryz.prog 47 hldElem mb L.length (dataB L)) :
    CallsIn Fence.wide n Tryz.prog 166 #[.slice none 0 0, .func (.func 118) #[] #[.pointer (some ⟨Bm, 0, none⟩)]] w fun e W' => ∃ v os, e = .returned v ∧ os.Perm L ∧ W'.ownsRow w.heap.size 82 4 v os.length (hldRow os) ∧ Below w.heap.size w W' := by
  obtain ⟨i0, hi, hz0, hz1, hz2⟩ := info_parts info_held
  have h1 : 1 ≤ n := by omega
  refine callsIn_of_wp_marks Tryz.func166 rfl trivial ?_ rfl
  simp only [Tryz.ntmps166, List.size_toArray, List.length_cons, List.length_nil, Nat.reduceAdd, Nat.reduceSub, Array.replicate_succ, Array.replicate_zero, List.push_toArray, List.append_toArray, List.nil_append, List.cons_append]
  gi_wp2
  have bO := Boxed.new w 54 (.slice none 0 0)
  have hB0 : Below w.heap.size w (w.alloc (.cells #[.slice none 0 0] 54)) := (Below.refl _ w).alloc (Nat.le_refl _) _
  have hst := BnVals1_stops (n - 1) (by omega) Bm mb L m hL (w.alloc (.cells #[.slice none 0 0] 54)) (by simp; omega) ((hB0.cell (p := ⟨Bm, 0, none⟩) hBm).trans hm) (by
    have hbl := hown.lt
    obtain ⟨es, clock, hb, Ft, hs, hD⟩ := hown
    exact ⟨es, clock, (hB0.block mb hbl).trans hb, Ft, hs, hD⟩)
  refine wpIn_rangeFunc_ownH wide_round h1 (gf := 118) (lb := #[.pointer (some ⟨Bm, 0, none⟩)]) rfl trivial (enters_of Tryz.func118 (by kernel_rfl) rfl)
    hst walksK_t walksK_b (Below.refl _ _) (fun _ => rfl)
    (fun (pre : HldL) W => (∃ v, Boxed W w.heap.size 54 v ∧ W.ownsRow w.heap.size 82 4 v pre.length (hldRow pre) ∧ True) ∧ Below w.heap.size w W)
    (fun _ _ _ => False)
    (OwnFrom.and (Own.from (holdsRow_own w.heap.size w.heap.size 54 82 4 (fun pre : HldL => pre.length) hldRow (fun (_ : HldL) _ => True)) _) (ownFrom_below (Nat.le_refl _) (by simp)))
    (fun _ _ _ _ _ hs _ _ => hs)
    ⟨⟨_, bO, World.ownsRow_nil _ _ _ _, trivial⟩, hB0⟩
    (fun x a' W => ∃ Bx, w.heap.size < Bx ∧ HldBox W Bx x ∧ a' = { tmps := #[.slice none 0 0, .func (.func 118) #[] #[.pointer (some ⟨Bm, 0, none⟩)], .pointer (some ⟨w.heap.size, 0, none⟩), undef, .slice none 0 0, .pointer (some ⟨Bx, 0, none⟩), .func (.func 118) #[] #[.pointer (some ⟨Bm, 0, none⟩)], hldV x, undef, undef, undef, undef, undef], defers := [] })
    (fun x a' _ X Y row hs hg hr => by obtain ⟨Bx, h1, h2, h3⟩ := hs; exact ⟨Bx, h1, h2.own hg (fun r e => (hr r e).2), h3⟩)
    ?assign ?body ?done ?stop
  case assign =>
    rintro l pre x W K ⟨⟨v, hv, hrow, _⟩, hB⟩ hK
    have hlt := hv.lt
    have hnew : HldBox (W.alloc (.cells #[.int .u32 (x.id.1 : Int), .int .i64 x.id.2, .int .i64 x.uses, .string (bs x.text)] 82)) W.heap.size x := World.alloc_heap_new W _
    gi_wp2
    exact hK _ _ ((KeepsOthers.alloc _ _).from _) (KeepsWalks.alloc _ _) ⟨⟨_, hv.alloc _, hrow.alloc _, trivial⟩, hB.alloc hB.size _⟩ ⟨W.heap.size, hlt, hnew, rfl⟩
  case body =>
    rintro l pre x a' W hl' _ ⟨⟨v, hv, hrow, _⟩, hB⟩ ⟨Bx, hBx, hX, rfl⟩ hlt
    have hc := hv.cell
    obtain ⟨c0, c1, c2, c3⟩ := hX.cells
    gi_wp2_with (gi_at_builtin; refine wpListIn_append_own _ rfl _ _ 54 rfl w.heap.size 82 i0 (.agg #[.int .u32 0, .int .i64 0, .int .i64 0, .string ByteArray.empty]) 4 40 Tryz.underlying54 hi hz0 hz1 hz2 rfl (by decide) _ _ _ rfl (hrow.alloc _) ⟨W.heap.size, 0, none⟩ 1 1 (hldC x) rfl rfl (cell_newH _ _ _ _ _ _) (by simp [hldC, Value.oneCell']) (by unfold maxLen; omega) (by omega) (by have := hB.size; simp; omega) ?_; intro v' w1 hown' hgrow _; obtain ⟨g', cap', rfl⟩ := ownsRow_succ hown'; obtain ⟨hv1, hv2, hr2, hk2, hb2⟩ := hv.appended (by decide) hrow hB.size (Nat.le_refl _) hown' hgrow; have hc1 := hv1.cell; have hf1 := hv1.frozen)
    exact ⟨hk2.from _, hk2.walks, ⟨_, hv2, by rw [hldRow_snoc, List.length_append]; exact hr2, trivial⟩, hB.trans hb2⟩
  case done =>
    rintro D ys W hD hys ⟨⟨v, hv, hrow, _⟩, hB⟩ hK
    have hc := hv.cell
    gi_wp2
    refine ⟨by simp, .inl ⟨_, _, rfl, run_takeDeferred hK, ?_⟩⟩
    refine ⟨_, results_tmp rfl _ _ _, v, ys, rfl, hys, ?_, hB.trans (belowK_b (w := w) (Nat.le_refl _) W D _ _ (by simp at hD; omega) hK rfl rfl)⟩
    exact ownsRow_putObj hrow (.deferred none) hK rfl
  case stop =>
    rintro D c pre W _ _ h _
    exact h.elim
end Go.Proofs.YtpanoplcamdnkaaGreatDoor
/- bins in memory: the comparison that All sorts by, with the exact worlds that the library's SortFunc asks for. No conditions. -/
namespace Go.Proofs.YtpanoplcamdnkaaGreatDoor
open Go.RowKit Go.Lib Go.Sort

/-- only draws and new blocks -/
def Grows (w w' : World) : Prop := ∃ q os, w' = grow (w.drewN q) os
theorem Grows.refl (w : World) : Grows w w := ⟨0, #[], by rw [grow_empty]; rfl⟩
theorem Grows.alloc {w w' : World} (h : Grows w w') (o : Obj) : Grows w (w'.alloc o) := by
  obtain ⟨q, os, rfl⟩ := h
  exact ⟨q, os ++ #[o], by rw [alloc_eq_grow, grow_grow]⟩
theorem Grows.drew {w w' : World} (h : Grows w w') : Grows w w'.drew := by
  obtain ⟨q, os, rfl⟩ := h
  exact ⟨q + 1, os, rfl⟩
theorem Grows.trans {a b c : World} (h : Grows a b) (k : Grows b c) : Grows a c := by
  obtain ⟨q, os, rfl⟩ := h
  obtain ⟨q', os', rfl⟩ := k
  refine ⟨q + q', os ++ os', ?_⟩
  rw [← grow_grow]
  congr 1
  show grow ((a.drewN q).drewN q') os = _
  rw [World.drewN_drewN]
theorem Grows.below {w w' : World} (h : Grows w w') : Below w.heap.size w w' := by
  obtain ⟨q, os, rfl⟩ := h
  exact ⟨rfl, rfl, rfl, by show w.heap.size ≤ (w.heap ++ os).size; simp, fun k hk => by show (w.heap ++ os)[k]? = w.heap[k]?; exact Array.getElem?_append_left hk⟩
set_option maxRecDepth 100000 in
set_option maxHeartbeats 1000000 in
theorem PCompare_grows (p q : Nat) (m n : Int) (w : World) :
    Calls Tryz.prog 70 #[.agg #[.int .u32 (p : Int), .int .i64 m], .agg #[.int .u32 (q : Int), .int .i64 n]] w fun e w' => e = .returned (.int .i64 (cmpId p q m n)) ∧ Grows w w' := by
  have ha : Box2 w.heap.size (.int .u32 (p : Int)) (.int .i64 m) ((w.alloc (.cells #[.int .u32 (p : Int), .int .i64 m] 47)).alloc (.cells #[.int .u32 (q : Int), .int .i64 n] 47)) := (Box2.mk' w _ _ _).alloc _
  have hb : Box2 (w.heap.size + 1) (.int .u32 (q : Int)) (.int .i64 n) ((w.alloc (.cells #[.int .u32 (p : Int), .int .i64 m] 47)).alloc (.cells #[.int .u32 (q : Int), .int .i64 n] 47)) := by
    have := Box2.mk' (w.alloc (.cells #[.int .u32 (p : Int), .int .i64 m] 47)) (.int .u32 (q : Int)) (.int .i64 n) 47
    simpa using this
  have HA := Lib.hid ha
  have HB := Lib.hid hb
  have HB0 : Hid (Grows w ((w.alloc (.cells #[.int .u32 (p : Int), .int .i64 m] 47)).alloc (.cells #[.int .u32 (q : Int), .int .i64 n] 47))) := Lib.hid (((Grows.refl w).alloc _).alloc _)
  clear ha hb
  go_enter Tryz.func70, Tryz.ntmps70
  go_wp2_with fail
  generalize (w.alloc (.cells #[.int .u32 (p : Int), .int .i64 m] 47)).alloc (.cells #[.int .u32 (q : Int), .int .i64 n] 47) = w2 at *
  have hS0 : Grows w2 w2.drew := (Grows.refl _).drew
  refine region_S (fun w' => Grows w2 w') 12 (by kernel_rfl) (by kernel_rfl) ?_
  refine take_S 0 rfl (by kernel_rfl) (by kernel_rfl) hS0 (fun w' hS => by go_simp; rfl) ?_
  refine take_S 1 rfl (by kernel_rfl) (by kernel_rfl) hS0 (fun w' hS => by have A0 := (HA.out.below hS.below HA.out.lt).c0; have A1 := (HA.out.below hS.below HA.out.lt).c1; go_simp; rfl) ?_
  refine take_S 2 rfl (by kernel_rfl) (by kernel_rfl) hS0 (fun w' hS => by go_simp; rfl) ?_
  refine take_S 3 rfl (by kernel_rfl) (by kernel_rfl) hS0 (fun w' hS => by have B0 := (HB.out.below hS.below HB.out.lt).c0; have B1 := (HB.out.below hS.below HB.out.lt).c1; go_simp; rfl) ?_
  refine take_S 5 rfl (by kernel_rfl) (by kernel_rfl) hS0 (fun w' hS => by go_simp; rfl) ?_
  refine take_S 6 rfl (by kernel_rfl) (by kernel_rfl) hS0 (fun w' hS => by have A0 := (HA.out.below hS.below HA.out.lt).c0; have A1 := (HA.out.below hS.below HA.out.lt).c1; go_simp; rfl) ?_
  refine take_S 7 rfl (by kernel_rfl) (by kernel_rfl) hS0 (fun w' hS => by go_simp; rfl) ?_
  refine take_S 8 rfl (by kernel_rfl) (by kernel_rfl) hS0 (fun w' hS => by have B0 := (HB.out.below hS.below HB.out.lt).c0; have B1 := (HB.out.below hS.below HB.out.lt).c1; go_simp; rfl) ?_
  refine carry_S 4 rfl (by kernel_rfl) (by decide) (by kernel_rfl) (fun K hK => ?_)
  go_simp
  refine (CmpU_any p q _).mono ?_
  rintro e w3 ⟨rfl, rfl⟩
  refine hK _ _ hS0 ?_
  clear hK K
  try simp only [Act.put, List.getElem_toArray, List.getElem_cons_succ, List.getElem_cons_zero, List.setIfInBounds_toArray, List.set_cons_zero, List.set_cons_succ]
  refine carry_S 9 rfl (by kernel_rfl) (by decide) (by kernel_rfl) (fun K hK => ?_)
  go_simp
  refine (CmpI_any m n _).mono ?_
  rintro e w3 ⟨rfl, rfl⟩
  refine hK _ _ hS0 ?_
  clear hK K
  try simp only [Act.put, List.getElem_toArray, List.getElem_cons_succ, List.getElem_cons_zero, List.setIfInBounds_toArray, List.set_cons_zero, List.set_cons_succ]
  refine carry_S 10 rfl (by kernel_rfl) (by decide) (by kernel_rfl) (fun K hK => ?_)
  go_simp
  have hS1 := hS0.alloc (.cells #[.int .i64 (ordZ p q), .int .i64 (ordZ m n)] 3)
  refine hK _ _ hS1 ?_
  clear hK K
  try simp only [Act.put, List.getElem_toArray, List.getElem_cons_succ, List.getElem_cons_zero, List.setIfInBounds_toArray, List.set_cons_zero, List.set_cons_succ]
  refine carry_S 11 rfl (by kernel_rfl) (by decide) (by kernel_rfl) (fun K hK => ?_)
  go_simp
  refine (CmpOr_two (ordZ p q) (ordZ m n) w2.heap.size _ (by show (w2.alloc _).cell? ⟨w2.heap.size, 0, none⟩ = _; rw [World.cell?_alloc_at _ _ _ _ rfl]; rfl) (by show (w2.alloc _).cell? ⟨w2.heap.size, 1, none⟩ = _; rw [World.cell?_alloc_at _ _ _ _ rfl]; rfl)).mono ?_
  rintro e w3 ⟨rfl, rfl⟩
  refine hK _ _ hS1 (forced_S (by kernel_rfl) ?_)
  clear hK K
  try simp only [Act.put, List.getElem_toArray, List.getElem_cons_succ, List.getElem_cons_zero, List.setIfInBounds_toArray, List.set_cons_zero, List.set_cons_succ]
  simp only [List.drop_succ_cons, List.drop_zero]
  have hB9 := HB0.out.trans hS1
  go_wp2
  go_ret
  exact ⟨rfl, hB9⟩
set_option maxRecDepth 100000 in
theorem BnAll1_grows (x y : Hld) (w : World) : Calls Tryz.prog 69 #[hldV x, hldV y] w fun e w' => e = .returned (.int .i64 (cmpId x.id.1 y.id.1 x.id.2 y.id.2)) ∧ Grows w w' := by
  have HG : Hid (Grows w ((w.alloc (.cells #[.int .u32 (x.id.1 : Int), .int .i64 x.id.2, .int .i64 x.uses, .string (bs x.text)] 82)).alloc (.cells #[.int .u32 (y.id.1 : Int), .int .i64 y.id.2, .int .i64 y.uses, .string (bs y.text)] 82))) := Lib.hid (((Grows.refl w).alloc _).alloc _)
  have hx : Box4 w.heap.size (.int .u32 (x.id.1 : Int)) (.int .i64 x.id.2) (.int .i64 x.uses) (.string (bs x.text)) ((w.alloc (.cells #[.int .u32 (x.id.1 : Int), .int .i64 x.id.2, .int .i64 x.uses, .string (bs x.text)] 82)).alloc (.cells #[.int .u32 (y.id.1 : Int), .int .i64 y.id.2, .int .i64 y.uses, .string (bs y.text)] 82)) := (Box4.mk' w _ _ _ _ _).below ((Below.refl (w.alloc _).heap.size (w.alloc _)).alloc (Nat.le_refl _) _) (by simp)
  have hy : Box4 (w.heap.size + 1) (.int .u32 (y.id.1 : Int)) (.int .i64 y.id.2) (.int .i64 y.uses) (.string (bs y.text)) ((w.alloc (.cells #[.int .u32 (x.id.1 : Int), .int .i64 x.id.2, .int .i64 x.uses, .string (bs x.text)] 82)).alloc (.cells #[.int .u32 (y.id.1 : Int), .int .i64 y.id.2, .int .i64 y.uses, .string (bs y.text)] 82)) := by
    have := Box4.mk' (w.alloc (.cells #[.int .u32 (x.id.1 : Int), .int .i64 x.id.2, .int .i64 x.uses, .string (bs x.text)] 82)) (.int .u32 (y.id.1 : Int)) (.int .i64 y.id.2) (.int .i64 y.uses) (.string (bs y.text)) 82
    simpa using this
  obtain ⟨c0, c1, _, _, _⟩ := hx
  obtain ⟨d0, d1, _, _, _⟩ := hy
  go_enter Tryz.func69, Tryz.ntmps69
  go_wp2_with fail
  refine (PCompare_grows x.id.1 y.id.1 x.id.2 y.id.2 _).mono ?_
  rintro e w3 ⟨rfl, hg⟩
  have HG3 := Lib.hid (HG.out.trans hg)
  clear hg c0 c1 d0 d1
  go_wp2
  go_ret
  exact ⟨rfl, HG3.out⟩
end Go.Proofs.YtpanoplcamdnkaaGreatDoor
/- bins in memory: the library's SortFunc at pieces; All. No conditions but bounds. -/
namespace Go.Proofs.YtpanoplcamdnkaaGreatDoor
open Go.RowKit Go.Lib Go.Sort

theorem flat_hld (os : HldL) : flatK hldC 4 os.toArray = (hldRow os).toArray := by
  refine ext_get! (by simp [hldRow_length]) fun t ht => ?_
  have ht' : t < os.length * 4 := by simpa using ht
  have hd : t / 4 < os.length := by omega
  rw [get_flatK _ _ _ t (by simpa using ht')]
  have h1 := hldRow_at os (t / 4) hd (t % 4) (Nat.mod_lt _ (by decide))
  rw [show t / 4 * 4 + t % 4 = t by omega] at h1
  have h2 : (hldRow os).toArray[t]! = ((hldRow os)[t]?).getD default := by simp [Array.getElem!_eq_getD, Array.getD_eq_getD_getElem?]
  rw [h2, h1]
  simp [List.getElem!_eq_getElem?_getD, getElem!_pos, hd]
theorem holdsK_own {w : World} {base g n cap : Nat} {os : HldL} (h : w.ownsRow base 82 4 (.slice (some ⟨g, 0, none⟩) n cap) n (hldRow os)) : HoldsK hldC 4 w g 0 os.toArray := by
  show Holds id w g 0 (flatK hldC 4 os.toArray)
  rw [flat_hld]
  intro j hj
  have hj' : j < (hldRow os).length := by simpa using hj
  have hl := h.1
  rw [Nat.zero_add]
  refine ⟨?_, h.frozenAt j⟩
  rw [h.cellAt j (by omega), List.getElem?_eq_getElem hj']
  simp [getElem!_pos, hj']
theorem own_putRowK {w : World} {base g n cap q : Nat} {zs : List Value} {ys : HldL} (h : w.ownsRow base 82 4 (.slice (some ⟨g, 0, none⟩) n cap) n zs) (hy : ys.length = n) :
    (putRowK hldC 4 (Sort.ahead w q) g 0 ys.toArray).ownsRow base 82 4 (.slice (some ⟨g, 0, none⟩) n cap) n (hldRow ys) := by
  unfold putRowK
  rw [flat_hld]
  rcases h.2 with ⟨e0, _⟩ | ⟨g', cap', cur, e0, hb, hg, hn, hm, hs, ht⟩
  · cases e0
  · injection e0 with e1 _ e3
    injection e1 with e1
    injection e1 with e1
    subst e1; subst e3
    have hz := hldRow_length ys
    refine ⟨by rw [hz, hy], .inr ⟨g, cap, putCells id 0 (hldRow ys).toArray cur, rfl, hb, ?_, hn, hm, by simpa [putCells] using hs, ?_⟩⟩
    · simp [putRow, mapBlock, Sort.ahead, Array.getElem?_modify, hg, onCells]
    · apply List.ext_getElem?
      intro j
      rw [List.getElem?_take, Array.getElem?_toList]
      by_cases hj : j < n * 4
      · have hjc : j < cur.size := by omega
        have hjz : j < (hldRow ys).length := by omega
        simp only [if_pos hj, putCells, Array.getElem?_mapIdx, Array.getElem?_eq_getElem hjc, Option.map_some]
        rw [if_pos (by simp; omega), List.getElem?_eq_getElem hjz]
        simp [getElem!_pos, hjz]
      · rw [if_neg hj, List.getElem?_eq_none (by omega)]
theorem sorted_eq : ∀ {L M : HldL}, SrtB L → M.Perm L → M.Pairwise (fun a b => lesser b.id a.id = false) → M = L
  | [], M, _, hp, _ => List.Perm.eq_nil hp
  | x :: r, [], _, hp, _ => absurd hp.symm.eq_nil (by simp)
  | x :: r, y :: m, hs, hp, hm => by
    obtain ⟨h1, h2⟩ := srtB_cons.1 hs
    obtain ⟨m1, m2⟩ := List.pairwise_cons.1 hm
    have hxy : y = x := by
      have hx : x ∈ y :: m := hp.symm.subset List.mem_cons_self
      have hy : y ∈ x :: r := hp.subset List.mem_cons_self
      rcases List.mem_cons.1 hx with e | hx
      · exact e.symm
      · rcases List.mem_cons.1 hy with e | hy
        · exact e
        · have a1 := h1 y hy
          have a2 := m1 x hx
          rw [a1] at a2; cases a2
    subst hxy
    rw [sorted_eq h2 (List.Perm.cons_inv hp) m2]
def cfH (x y : Hld) : Int := cmpId x.id.1 y.id.1 x.id.2 y.id.2
theorem ltOf_cfH (x y : Hld) : ltOf cfH x y = lesser x.id y.id := cmpId_less _ _ _ _
theorem swo_cfH : SWO (ltOf cfH) := ⟨fun x => by rw [ltOf_cfH, lesser_irrefl], fun x y z h1 h2 => by rw [ltOf_cfH] at *; exact lesser_trans h1 h2, fun x y z h1 h2 => by
  rw [ltOf_cfH] at *
  have h3 : ¬ lesser x.id y.id = true := by rw [h1]; simp
  have h4 : ¬ lesser y.id z.id = true := by rw [h2]; simp
  rw [lesser_true] at h3 h4
  rw [Bool.eq_false_iff, Ne, lesser_true]
  omega⟩
theorem BnSort_any (base g cap : Nat) (L os : HldL) (hS : SrtB L) (hp : os.Perm L) (hl : L.length ≤ 1000000) (w0 w : World) (ho : w.ownsRow base 82 4 (.slice (some ⟨g, 0, none⟩) os.length cap) os.length (hldRow os)) (hB : Below base w0 w) (hbase : base ≤ w.heap.size) :
    Calls Tryz.prog 117 #[.slice (some ⟨g, 0, none⟩) os.length cap, .func (.func 69) #[] #[]] w fun e w' => e = .returned (.tuple #[]) ∧ w'.ownsRow base 82 4 (.slice (some ⟨g, 0, none⟩) os.length cap) L.length (hldRow L) ∧ Below base w0 w' := by
  have hlen : os.length = L.length := hp.length_eq
  have hgl : g < w.heap.size ∧ base ≤ g := by
    rcases ho.2 with ⟨e0, _⟩ | ⟨g', cap', cur, e0, hb, hg, _⟩
    · cases e0
    · injection e0 with e1 _ _
      injection e1 with e1
      injection e1 with e1
      subst e1
      exact ⟨(Array.getElem?_eq_some_iff.1 hg).1, hb⟩
  refine (AnyQ.slices_SortFunc (P := Tryz.prog) Tryz.sortf117 4 Tryz.isAgg82 Tryz.sizeOf82 hldC (fun _ => rfl) (fun x v hv => by simp only [hldC, List.mem_cons, List.not_mem_nil, or_false] at hv; rcases hv with rfl | rfl | rfl | rfl <;> rfl) cfH swo_cfH 69 #[] g 0 cap os.toArray w
    (enters_of Tryz.func69 (by kernel_rfl) rfl) (fun m os' dk _ x y => BnAll1_grows x y _) (holdsK_own ho) hgl.1 (by simp; omega)).mono ?_
  rintro e w' ⟨rfl, d', n, os', hpm, hst, rfl⟩
  obtain ⟨hsz, _, hpe⟩ := hpm
  have hsz' : d'.toList.length = os.length := by simpa using hsz
  have hpe' : d'.toList.Perm os := by
    have e1 : d'.extract 0 os.toArray.size = d' := by rw [← hsz]; simp
    have e2 : os.toArray.extract 0 os.toArray.size = os.toArray := by simp
    rw [e1, e2] at hpe
    simpa using hpe
  have hso : d'.toList.Pairwise (fun a b => lesser b.id a.id = false) := by
    rw [List.pairwise_iff_getElem]
    intro i j hi hj hij
    have := hst i j (Nat.zero_le _) hij (by have := hsz'; rw [List.size_toArray]; omega)
    rw [ltOf_cfH] at this
    simpa [getElem!_pos, show i < d'.size by simpa using hi, show j < d'.size by simpa using hj] using this
  have hd : d'.toList = L := sorted_eq hS (hpe'.trans hp) hso
  have hda : d' = L.toArray := by rw [← hd]
  subst hda
  have h1 := own_putRowK (q := n) ho (ys := L) (by omega)
  have h2 : (sortWorldK hldC 4 w g 0 n L.toArray os').ownsRow base 82 4 (.slice (some ⟨g, 0, none⟩) os.length cap) os.length (hldRow L) := own_belowI h1 (Lib.below_grow _ _ (Nat.le_refl _) 0 os')
  refine ⟨rfl, by rw [← hlen]; exact h2, ?_⟩
  have hbp := below_putRow (enc := id) (q := n) (d := flatK hldC 4 L.toArray) hB hgl.2
  exact hbp.trans ((Lib.below_grow _ _ (Nat.le_refl _) 0 os').mono (Nat.le_trans hbase (by simp [putRow, mapBlock, Sort.ahead])))
end Go.Proofs.YtpanoplcamdnkaaGreatDoor
/- bins in memory: walks of slices.Collect, slices.SortedFunc, maps.Values at a bin's map; All: the pieces, sorted by their IDs. No conditions but bounds. -/
namespace Go.Proofs.YtpanoplcamdnkaaGreatDoor
open Go.RowKit Go.Lib Go.Sort

theorem BnApSeq_any (Bm mb : Nat) (L : HldL) (m : Int) (hL : BinOk m L) (hl : L.length ≤ 1000000) (w : World) (hBm : Bm < w.heap.size) (hm : w.cell? ⟨Bm, 0, none⟩ = some (.map (some mb))) (hown : w.ownsMap Tryz.prog 47 hldElem mb L.length (dataB L)) :
    Calls Tryz.prog 166 #[.slice none 0 0, .func (.func 118) #[] #[.pointer (some ⟨Bm, 0, none⟩)]] w fun e W' => ∃ v os, e = .returned v ∧ os.Perm L ∧ W'.ownsRow w.heap.size 82 4 v os.length (hldRow os) ∧ Below w.heap.size w W' :=
  callsIn_wide.1 (BnApSeq_in 2 (Nat.le_refl _) Bm mb L m hL hl w hBm hm hown)
theorem BnColl_any (Bm mb : Nat) (L : HldL) (m : Int) (hL : BinOk m L) (hl : L.length ≤ 1000000) (w : World) (hBm : Bm < w.heap.size) (hm : w.cell? ⟨Bm, 0, none⟩ = some (.map (some mb))) (hown : w.ownsMap Tryz.prog 47 hldElem mb L.length (dataB L)) :
    Calls Tryz.prog 116 #[.func (.func 118) #[] #[.pointer (some ⟨Bm, 0, none⟩)]] w fun e W' => ∃ v os, e = .returned v ∧ os.Perm L ∧ W'.ownsRow w.heap.size 82 4 v os.length (hldRow os) ∧ Below w.heap.size w W' := by
  have AP := Lib.hid (BnApSeq_any Bm mb L m hL hl w hBm hm hown)
  clear hL hm hown
  go_enter Tryz.func116, Tryz.ntmps116
  go_wp2_with fail
  refine AP.out.mono ?_
  rintro e w1 ⟨v, os, rfl, hp, ho, hb⟩
  obtain ⟨A, c, hv⟩ := own_formI ho
  subst hv
  have HP := Lib.hid hp
  have HO := Lib.hid ho
  have HB := Lib.hid hb
  clear hp ho hb
  go_wp2
  go_ret
  exact ⟨_, os, rfl, HP.out, HO.out, HB.out⟩
def SortedPost (L : HldL) (w : World) (e : Ending) (W' : World) : Prop := ∃ v, e = .returned v ∧ W'.ownsRow w.heap.size 82 4 v L.length (hldRow L) ∧ Below w.heap.size w W'
set_option maxRecDepth 100000 in
theorem BnSorted_any (Bm mb : Nat) (L : HldL) (m : Int) (hL : BinOk m L) (hl : L.length ≤ 1000000) (w : World) (hBm : Bm < w.heap.size) (hm : w.cell? ⟨Bm, 0, none⟩ = some (.map (some mb))) (hown : w.ownsMap Tryz.prog 47 hldElem mb L.length (dataB L)) :
    Calls Tryz.prog 67 #[.func (.func 118) #[] #[.pointer (some ⟨Bm, 0, none⟩)], .func (.func 69) #[] #[]] w (SortedPost L w) := by
  have AP := Lib.hid (BnColl_any Bm mb L m hL hl w hBm hm hown)
  have HOK := Lib.hid hL
  clear hL hm hown
  go_enter Tryz.func67, Tryz.ntmps67
  go_wp2_with fail
  refine AP.out.mono ?_
  rintro e w1 ⟨v, os, rfl, hp, ho, hb⟩
  have hlen := hp.length_eq
  have HP := Lib.hid hp
  have HO := Lib.hid ho
  have HB := Lib.hid hb
  rcases ho.2 with ⟨rfl, h0⟩ | ⟨g, cap, cur, rfl, _⟩
  · have hL0 : L = [] := List.eq_nil_of_length_eq_zero (by omega)
    have ho0 : os = [] := List.eq_nil_of_length_eq_zero h0
    have NO : Hid (Calls Tryz.prog 117 #[.slice none 0 0, .func (.func 69) #[] #[]] w1 fun e w' => e = .returned (.tuple #[]) ∧ w' = w1) := Lib.hid (AnyF.slices_SortFunc_none (P := Tryz.prog) Tryz.sortf117 none 0 (.func (.func 69) #[] #[]) w1)
    have HQ : Hid (SortedPost L w (.returned (.slice none 0 0)) w1) := Lib.hid ⟨_, rfl, by rw [hL0]; exact World.ownsRow_nil _ _ _ _, HB.out⟩
    clear hp ho hb hL0 ho0 h0 hlen
    go_wp2_with fail
    have NO' := NO.out
    clear NO
    refine Calls.mono NO' (fun e w2 h => ?_)
    obtain ⟨he, hw⟩ := h
    subst he
    subst hw
    go_wp2
    go_ret
    exact HQ.out
  · have SO := Lib.hid (BnSort_any w.heap.size g cap L os HOK.out.srt hp hl w w1 ho hb hb.size)
    clear hp ho hb hlen
    go_wp2_with fail
    refine SO.out.mono ?_
    rintro e w2 ⟨rfl, ho2, hb2⟩
    have HQ : Hid (SortedPost L w (.returned (.slice (some ⟨g, 0, none⟩) os.length cap)) w2) := Lib.hid ⟨_, rfl, ho2, hb2⟩
    clear ho2 hb2
    go_wp2
    go_ret
    exact HQ.out
theorem BnVals_any (mb : Nat) (w : World) : Calls Tryz.prog 68 #[.map (some mb)] w fun e w' => e = .returned (.func (.func 118) #[] #[.pointer (some ⟨w.heap.size, 0, none⟩)]) ∧ w' = w.alloc (.cells #[.map (some mb)] 117) := by
  go_enter Tryz.func68, Tryz.ntmps68
  go_wp2
  go_ret
  exact ⟨rfl, rfl⟩
set_option maxRecDepth 100000 in
theorem BnAll_any (b mb : Nat) (L : HldL) (m : Int) (hL : BinOk m L) (hl : L.length ≤ 1000000) (w : World) (hB : OBin b mb L w) :
    Calls Tryz.prog 25 #[.pointer (some ⟨b, 0, none⟩)] w (SortedPost L w) := by
  have c0 := hB.cell
  have hb1 : Below w.heap.size w (w.alloc (.cells #[.map (some mb)] 117)) := (Below.refl _ w).alloc (Nat.le_refl _) _
  have SO := Lib.hid (BnSorted_any w.heap.size mb L m hL hl (w.alloc (.cells #[.map (some mb)] 117)) (by simp) (by rw [World.cell?_alloc_at _ _ _ _ rfl]; rfl) (hB.below hb1).map)
  have HB1 := Lib.hid hb1
  clear hb1 hL hB
  go_enter Tryz.func25, Tryz.ntmps25
  go_wp2_with fail
  refine (BnVals_any mb w).mono ?_
  rintro e w1 ⟨rfl, rfl⟩
  go_wp2_with fail
  refine SO.out.mono ?_
  rintro e w2 ⟨v, rfl, ho, hb⟩
  obtain ⟨A, c, hv⟩ := own_formI ho
  subst hv
  have HQ : Hid (SortedPost L w (.returned (.slice A L.length c)) w2) := Lib.hid ⟨_, rfl, own_lower ho (by simp), HB1.out.trans (hb.mono HB1.out.size)⟩
  clear ho hb
  go_wp2
  go_ret
  exact HQ.out
end Go.Proofs.YtpanoplcamdnkaaGreatDoor

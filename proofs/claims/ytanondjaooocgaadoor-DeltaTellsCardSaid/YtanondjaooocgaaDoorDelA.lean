/- Walks of asOps (a difference of the reference is handed to the package) and of the reference's ApplyOf. Conditions: sizes below 2^40. -/
import Derived.Test.YtanondjaooocgaaDoorDelN
namespace Go.Proofs.YtanondjaooocgaaDoor
open Go.RowKit Go.Lib

set_option maxRecDepth 100000 in
set_option maxHeartbeats 1000000 in
theorem asOps_any (v : Value) (l : List DOp) (B : Nat) (w : World) (ha : RdM w B 3 v l.length (opRow l)) (hl : l.length ≤ 2 ^ 30) (hB : B ≤ w.heap.size) :
    Calls Tryd.prog 16 #[v] w fun e w' => ∃ v', e = .returned v' ∧ w'.ownsRow w.heap.size 45 3 v' l.length (opRow l) ∧ Below w.heap.size w w' := by
  obtain ⟨i0, hi, hz0, hz1, hz2⟩ := info_parts info_op
  obtain ⟨A, c, rfl, _, _, ha⟩ := ha
  have HA := Lib.hid ha
  clear ha
  go_enter Tryd.func16, Tryd.ntmps16
  go_wp2
  go_loopw [3, 4] (fun vs vi wr => ∃ k : Nat, vi = .int .i64 k ∧ k ≤ l.length ∧ wr.ownsRow w.heap.size 45 3 vs k (opRow (l.take k)) ∧ Below w.heap.size w wr) (fun _ vi _ => l.length - (intOf vi).toNat)
  case atStart => exact ⟨0, rfl, Nat.zero_le _, World.ownsRow_nil _ _ _ _, Below.refl _ _⟩
  case round =>
    obtain ⟨k, rfl, hk, hrow, hb⟩ := hrel
    by_cases hlt : k < l.length
    · obtain ⟨g, o, rfl, hg, hc⟩ := HA.out (by omega)
      obtain ⟨c1, c2, c3⟩ := opRow_get hc k hlt
      have hgw : g < w.heap.size := by omega
      replace c1 := (hb.cell (p := ⟨g, o + k * 3, none⟩) hgw).trans c1
      replace c2 := (hb.cell (p := ⟨g, o + k * 3 + 1, none⟩) hgw).trans c2
      replace c3 := (hb.cell (p := ⟨g, o + k * 3 + 2, none⟩) hgw).trans c3
      have b1 : (k : Int) < (l.length : Int) := by omega
      have hq : opRow (l.take (k + 1)) = opRow (l.take k) ++ [.int .i64 l[k].from_, .int .i64 l[k].many, .string (bs l[k].text)] := by
        rw [List.take_succ_eq_append_getElem hlt, opRow_append]; rfl
      have HQ := Lib.hid hq
      obtain ⟨A7, c7, rfl, _, _⟩ := own_form hrow
      clear hc hq
      go_wp2
      have b2 : (0 : Int) ≤ (k : Int) := by omega
      have hgr : g < wr.heap.size := by have := hb.size; omega
      refine region_S (fun w' => w'.cell? ⟨g, o + k * 3, none⟩ = some (.int .i64 l[k].from_) ∧ w'.cell? ⟨g, o + k * 3 + 1, none⟩ = some (.int .i64 l[k].many) ∧ w'.cell? ⟨g, o + k * 3 + 2, none⟩ = some (.string (bs l[k].text))) 18 (by kernel_rfl) (by kernel_rfl) ?_
      refine take_S 0 rfl (by kernel_rfl) (by kernel_rfl) ⟨c1, c2, c3⟩ (by rintro w' ⟨h1, h2, h3⟩; go_simp; rfl) ?_
      refine take_S 1 rfl (by kernel_rfl) (by kernel_rfl) ⟨c1, c2, c3⟩ (by rintro w' ⟨h1, h2, h3⟩; go_simp; rfl) ?_
      refine take_S 2 rfl (by kernel_rfl) (by kernel_rfl) ⟨c1, c2, c3⟩ (by rintro w' ⟨h1, h2, h3⟩; go_simp; rfl) ?_
      refine take_S 3 rfl (by kernel_rfl) (by kernel_rfl) ⟨c1, c2, c3⟩ (by rintro w' ⟨h1, h2, h3⟩; go_simp; rfl) ?_
      refine take_S 4 rfl (by kernel_rfl) (by kernel_rfl) ⟨c1, c2, c3⟩ (by rintro w' ⟨h1, h2, h3⟩; go_simp; rfl) ?_
      refine take_S 5 rfl (by kernel_rfl) (by kernel_rfl) ⟨c1, c2, c3⟩ (by rintro w' ⟨h1, h2, h3⟩; go_simp; rfl) ?_
      refine take_S 6 rfl (by kernel_rfl) (by kernel_rfl) ⟨c1, c2, c3⟩ (by rintro w' ⟨h1, h2, h3⟩; go_simp; rfl) ?_
      refine take_S 7 rfl (by kernel_rfl) (by kernel_rfl) ⟨c1, c2, c3⟩ (by rintro w' ⟨h1, h2, h3⟩; go_simp; rfl) ?_
      refine take_S 8 rfl (by kernel_rfl) (by kernel_rfl) ⟨c1, c2, c3⟩ (by rintro w' ⟨h1, h2, h3⟩; go_simp; rfl) ?_
      refine take_S 9 rfl (by kernel_rfl) (by kernel_rfl) ⟨c1, c2, c3⟩ (by rintro w' ⟨h1, h2, h3⟩; go_simp; rfl) ?_
      refine take_S 10 rfl (by kernel_rfl) (by kernel_rfl) ⟨c1, c2, c3⟩ (by rintro w' ⟨h1, h2, h3⟩; go_simp; rfl) ?_
      refine take_S 11 rfl (by kernel_rfl) (by kernel_rfl) ⟨c1, c2, c3⟩ (by rintro w' ⟨h1, h2, h3⟩; go_simp; rfl) ?_
      refine take_S 12 rfl (by kernel_rfl) (by kernel_rfl) ⟨c1, c2, c3⟩ (by rintro w' ⟨h1, h2, h3⟩; go_simp; rfl) ?_
      refine take_S 13 rfl (by kernel_rfl) (by kernel_rfl) ⟨c1, c2, c3⟩ (by rintro w' ⟨h1, h2, h3⟩; go_simp; rfl) ?_
      refine take_S 14 rfl (by kernel_rfl) (by kernel_rfl) ⟨c1, c2, c3⟩ (by rintro w' ⟨h1, h2, h3⟩; go_simp; rfl) ?_
      refine take_S 15 rfl (by kernel_rfl) (by kernel_rfl) ⟨c1, c2, c3⟩ (by rintro w' ⟨h1, h2, h3⟩; go_simp; rfl) ?_
      refine take_S 16 rfl (by kernel_rfl) (by kernel_rfl) ⟨c1, c2, c3⟩ (by rintro w' ⟨h1, h2, h3⟩; go_simp; rfl) ?_
      refine carry_S 17 rfl (by kernel_rfl) (by decide) (by kernel_rfl) (fun K hK => ?_)
      go_simp
      refine hK _ _ ?hS (forced_S (by kernel_rfl) ?_)
      case hS => exact ⟨(World.cell?_alloc_lt _ _ _ hgr).trans c1, (World.cell?_alloc_lt _ _ _ hgr).trans c2, (World.cell?_alloc_lt _ _ _ hgr).trans c3⟩
      clear hK K
      simp only [List.drop_succ_cons, List.drop_zero]
      go_wp2_with (at_builtin; refine wpList_append_own _ rfl _ _ 23 rfl w.heap.size 45 i0 (.agg #[.int .i64 0, .int .i64 0, .string ByteArray.empty]) 3 32 Tryd.underlying23 hi hz0 hz1 hz2 rfl (by decide) _ _ _ rfl (hrow.alloc _) ⟨wr.heap.size, 0, none⟩ 1 1 [.int .i64 l[k].from_, .int .i64 l[k].many, .string (bs l[k].text)] rfl rfl (cells_new wr _ _ _ _) (by simp [Value.oneCell']) (by unfold maxLen; omega) (by omega) (by have := hb.size; simp; omega) ?_; intro v' w1 hown' hgrow _)
      go_roundw
      case rel => exact ⟨k + 1, by go_num, hlt, by rw [HQ.out]; exact hown', below_append hb hb.size hrow ⟨hgrow.os, hgrow.tape, hgrow.output, hgrow.size, hgrow.block⟩⟩
      case measure => simp [intOf]; omega
    · obtain rfl : k = l.length := by omega
      have hq : l.take l.length = l := List.take_of_length_le (Nat.le_refl _)
      rw [hq] at hrow
      clear hq
      go_wp2
      go_ret
      exact ⟨_, rfl, hrow, hb⟩

/-- what the reference's ApplyOf says of an error -/
def refFault (hv : List Bytes) (l : List DOp) : Int × Int :=
  match firstErr hv 0 l with
  | none => (0, -1)
  | some (i, b) => (if b then 2 else 3, i)
def refText (hv : List Bytes) (l : List DOp) : Bytes :=
  match firstErr hv 0 l with
  | none => opsVal hv l
  | some _ => []
def RefPost (hv : List Bytes) (l : List DOp) (w : World) (e : Ending) (w' : World) : Prop :=
  e = .returned (.tuple #[.string (bs (refText hv l)), .agg #[.int .i64 (refFault hv l).1, .int .i64 (refFault hv l).2]]) ∧ Below w.heap.size w w'
theorem refPost_err {hv : List Bytes} {l : List DOp} {w w' : World} {k : Nat} (b : Bool) (h : firstErr hv 0 l = some (k, b)) (hb : Below w.heap.size w w') (c : Int) (hc : c = if b then 2 else 3) :
    RefPost hv l w (.returned (.tuple #[.string ByteArray.empty, .agg #[.int .i64 c, .int .i64 (k : Int)]])) w' := by
  subst hc
  refine ⟨?_, hb⟩
  unfold refText refFault
  rw [h]
  rfl

theorem errOf_b1 {hv : List Bytes} {fr mn : Int} {tx : Bytes} (h1 : 0 < mn) (h : (hv.length : Int) < mn ∨ fr < 0 ∨ (hv.length : Int) - mn < fr) : errOf hv ⟨fr, mn, tx⟩ = some true := by
  unfold errOf
  rw [if_neg (show ¬ mn < 0 by omega), if_pos h1]
  by_cases a1 : fr < 0
  · rw [if_pos a1]
  · rw [if_neg a1]
    by_cases a2 : (hv.length : Int) < fr
    · rw [if_pos a2]
    · rw [if_neg a2, if_pos (show (hv.length : Int) - fr < mn by omega)]
theorem errOf_run {hv : List Bytes} {fr mn : Int} {tx : Bytes} (h1 : 0 < mn) (h2 : 0 ≤ fr) (h3 : fr ≤ (hv.length : Int) - mn) : errOf hv ⟨fr, mn, tx⟩ = if tx ≠ [] then some false else none := by
  unfold errOf
  rw [if_neg (show ¬ mn < 0 by omega), if_pos h1, if_neg (show ¬ fr < 0 by omega), if_neg (show ¬ (hv.length : Int) < fr by omega), if_neg (show ¬ (hv.length : Int) - fr < mn by omega)]
theorem res_cells {wr : World} {b : Nat} {x y : Value} (u v : Value) (o : Obj) (q0 : wr.cell? ⟨b, 0, none⟩ = some x) (q1 : wr.cell? ⟨b, 1, none⟩ = some y) :
    (((wr.setCell ⟨b, 0, none⟩ u).setCell ⟨b, 1, none⟩ v).alloc o).cell? ⟨b, 0, none⟩ = some u ∧ (((wr.setCell ⟨b, 0, none⟩ u).setCell ⟨b, 1, none⟩ v).alloc o).cell? ⟨b, 1, none⟩ = some v := by
  have hb : b < wr.heap.size := World.block_lt_of_cell? wr _ q0
  have hne : (⟨b, 0, none⟩ : Addr) ≠ ⟨b, 1, none⟩ := by intro h; injection h with _ h; cases h
  have p1 : (wr.setCell ⟨b, 0, none⟩ u).cell? ⟨b, 1, none⟩ = some y := (World.cell?_setCell_other _ _ _ _ hne).trans q1
  have p0 : (wr.setCell ⟨b, 0, none⟩ u).cell? ⟨b, 0, none⟩ = some u := World.cell?_setCell_same _ _ _ q0
  refine ⟨(World.cell?_alloc_lt _ _ _ (by simp; omega)).trans ((World.cell?_setCell_other _ _ _ _ hne.symm).trans p0), (World.cell?_alloc_lt _ _ _ (by simp; omega)).trans (World.cell?_setCell_same _ _ _ p1)⟩
theorem res_below {w wr : World} (h : Below w.heap.size w wr) (u v : Value) (o : Obj) : Below w.heap.size w (((wr.setCell ⟨w.heap.size, 0, none⟩ u).setCell ⟨w.heap.size, 1, none⟩ v).alloc o) :=
  Below.alloc (Below.setCell (Below.setCell h (p := (⟨w.heap.size, 0, none⟩ : Addr)) (Nat.le_refl _) u) (p := (⟨w.heap.size, 1, none⟩ : Addr)) (Nat.le_refl _) v) (by have := h.size; simp; omega) o
set_option maxRecDepth 100000 in
set_option maxHeartbeats 4000000 in
theorem ApplyOf_any (old : ByteArray) (v : Value) (l : List DOp) (B : Nat) (w : World) (ho : old.size ≤ 2 ^ 30) (ha : RdM w B 3 v l.length (opRow l)) (hB : B ≤ w.heap.size) (hl : l.length ≤ 2 ^ 30)
    (hval : (opsVal (pieces old.data.toList) l).length ≤ 2 ^ 40) (hwf : ∀ o ∈ l, (Lit.int .i64 o.from_).wf = true ∧ (Lit.int .i64 o.many).wf = true) :
    Calls Tryd.prog 17 #[.string old, v] w (RefPost (pieces old.data.toList) l w) := by
  have hl1 := pieces_length_le old.data.toList
  rw [← size_toList] at hl1
  generalize hH : pieces old.data.toList = hv at *
  have HH := Lib.hid hH
  have HV := Lib.hid hval
  have HWF := Lib.hid hwf
  clear hH hval hwf
  obtain ⟨A, c, rfl, _, _, ha⟩ := ha
  have HA := Lib.hid ha
  clear ha
  go_enter Tryd.func17, Tryd.ntmps17
  go_wp2_with fail
  refine (PiecesOf_any old (by omega) _).mono ?_
  rintro e W1 ⟨v1, rfl, hr1, hb1⟩
  rw [HH.out] at hr1
  obtain ⟨A1, c1, rfl, hnc1, hd1⟩ := Rd.own hr1
  rw [List.length_map] at hnc1 ⊢
  have hz1 : w.heap.size < W1.heap.size := by have := hb1.size; simp at this; omega
  have r0 : W1.cell? ⟨w.heap.size, 0, none⟩ = some (.int .i64 0) := (hb1.cell (p := ⟨w.heap.size, 0, none⟩) (by simp)).trans (by rw [World.cell?_alloc_at _ _ _ _ rfl]; rfl)
  have r1 : W1.cell? ⟨w.heap.size, 1, none⟩ = some (.int .i64 0) := (hb1.cell (p := ⟨w.heap.size, 1, none⟩) (by simp)).trans (by rw [World.cell?_alloc_at _ _ _ _ rfl]; rfl)
  have f0 : W1.frozen? ⟨w.heap.size, 0, none⟩ = false := (hb1.frozen (p := ⟨w.heap.size, 0, none⟩) (by simp)).trans (by rw [World.frozen?_alloc_at _ _ _ _ rfl])
  have f1 : W1.frozen? ⟨w.heap.size, 1, none⟩ = false := (hb1.frozen (p := ⟨w.heap.size, 1, none⟩) (by simp)).trans (by rw [World.frozen?_alloc_at _ _ _ _ rfl])
  have HB1 := Lib.hid (((Below.refl _ w).alloc (Nat.le_refl _) (.cells #[.int .i64 0, .int .i64 0] 49)).trans (hb1.mono (by simp)))
  have HD1 := Lib.hid hd1
  clear hb1 hr1 hd1
  go_wp2
  go_loopg [7, 8] l.length (fun gh vs vi wr => ∃ k : Nat, vi = .int .i64 k ∧ k ≤ l.length ∧ gh = l.length - k ∧ Hid (vs = .string (bs (opsVal hv (l.take k)))) ∧ Hid (firstErr hv 0 l = firstErr hv k (l.drop k)) ∧ Below W1.heap.size W1 wr)
  case atStart => exact ⟨0, rfl, Nat.zero_le _, rfl, rfl, rfl, Below.refl _ _⟩
  case round =>
    obtain ⟨k, rfl, hk, rfl, hvs, hfe, hb⟩ := hrel
    obtain rfl := hvs.out
    have q0 := (hb.cell (p := ⟨w.heap.size, 0, none⟩) hz1).trans r0
    have q1 := (hb.cell (p := ⟨w.heap.size, 1, none⟩) hz1).trans r1
    have e0 := (hb.frozen (p := ⟨w.heap.size, 0, none⟩) hz1).trans f0
    have e1 := (hb.frozen (p := ⟨w.heap.size, 1, none⟩) hz1).trans f1
    have hbw : Below w.heap.size w wr := HB1.out.trans (hb.mono (Nat.le_of_lt hz1))
    have hzr : w.heap.size < wr.heap.size := by have := hb.size; omega
    have HBW := Lib.hid hbw
    by_cases hlt : k < l.length
    · obtain ⟨g, o, rfl, hg, hc⟩ := HA.out (by omega)
      obtain ⟨x1, x2, x3⟩ := opRow_get hc k hlt
      have hgw : g < w.heap.size := by omega
      have hgw2 : g < wr.heap.size := by omega
      replace x1 := (hbw.cell (p := ⟨g, o + k * 3, none⟩) hgw).trans x1
      replace x2 := (hbw.cell (p := ⟨g, o + k * 3 + 1, none⟩) hgw).trans x2
      replace x3 := (hbw.cell (p := ⟨g, o + k * 3 + 2, none⟩) hgw).trans x3
      obtain ⟨wf1, wf2⟩ := HWF.out l[k] (List.getElem_mem hlt)
      have hstep := Lib.hid (firstErr_step (hv := hv) hlt)
      have hhit := Lib.hid (fun b => firstErr_hit (hv := hv) (b := b) hlt)
      have hvl := Lib.hid (opsVal_take_succ hv l k hlt)
      have hvle := opsVal_take_le hv l k
      have hvle2 := opsVal_take_le hv l (k + 1)
      clear hc hbw
      generalize l[k] = op at *
      obtain ⟨fr, mn, tx⟩ := op
      have bd1 := bounds_i64 wf1
      have bd2 := bounds_i64 wf2
      clear wf1 wf2
      by_cases hm0 : mn < 0
      · have HE := Lib.hid (show errOf hv ⟨fr, mn, tx⟩ = some true by unfold errOf; rw [if_pos hm0])
        obtain ⟨t0, t1⟩ := res_cells (.int .i64 2) (.int .i64 (k : Int)) (.cells #[.int .i64 fr, .int .i64 mn, .string (bs tx)] 46) q0 q1
        go_wp2
        refine bodyPost_ret (v := .tuple #[.string ⟨#[]⟩, .agg #[.int .i64 2, .int .i64 (k : Int)]]) (by simp [results, Tryd.results17, go_sem, t0, t1]) rfl ?_
        exact refPost_err true (hfe.out.trans (hhit.out _ HE.out)) (res_below HBW.out _ _ _) 2 rfl
      · by_cases hm1 : 0 < mn
        · by_cases hfl : (hv.length : Int) < mn
          · have HE := Lib.hid (errOf_b1 (fr := fr) (tx := tx) hm1 (.inl hfl))
            obtain ⟨t0, t1⟩ := res_cells (.int .i64 2) (.int .i64 (k : Int)) (.cells #[.int .i64 fr, .int .i64 mn, .string (bs tx)] 46) q0 q1
            go_wp2
            refine bodyPost_ret (v := .tuple #[.string ⟨#[]⟩, .agg #[.int .i64 2, .int .i64 (k : Int)]]) (by simp [results, Tryd.results17, go_sem, t0, t1]) rfl ?_
            exact refPost_err true (hfe.out.trans (hhit.out _ HE.out)) (res_below HBW.out _ _ _) 2 rfl
          · by_cases hf0 : fr < 0
            · have HE := Lib.hid (errOf_b1 (hv := hv) (tx := tx) hm1 (.inr (.inl hf0)))
              obtain ⟨t0, t1⟩ := res_cells (.int .i64 2) (.int .i64 (k : Int)) (.cells #[.int .i64 fr, .int .i64 mn, .string (bs tx)] 46) q0 q1
              go_wp2
              refine bodyPost_ret (v := .tuple #[.string ⟨#[]⟩, .agg #[.int .i64 2, .int .i64 (k : Int)]]) (by simp [results, Tryd.results17, go_sem, t0, t1]) rfl ?_
              exact refPost_err true (hfe.out.trans (hhit.out _ HE.out)) (res_below HBW.out _ _ _) 2 rfl
            · have hs1 : IntKind.i64.wrap ((hv.length : Int) - mn) = (hv.length : Int) - mn := IntWalk.i64_in _ (by omega)
              by_cases hf1 : (hv.length : Int) - mn < fr
              · have HE := Lib.hid (errOf_b1 (tx := tx) hm1 (.inr (.inr hf1)))
                obtain ⟨t0, t1⟩ := res_cells (.int .i64 2) (.int .i64 (k : Int)) (.cells #[.int .i64 fr, .int .i64 mn, .string (bs tx)] 46) q0 q1
                go_wp2
                refine bodyPost_ret (v := .tuple #[.string ⟨#[]⟩, .agg #[.int .i64 2, .int .i64 (k : Int)]]) (by simp [results, Tryd.results17, go_sem, t0, t1]) rfl ?_
                exact refPost_err true (hfe.out.trans (hhit.out _ HE.out)) (res_below HBW.out _ _ _) 2 rfl
              · by_cases ht : tx = []
                · subst ht
                  have u1 := bs_nil_empty
                  have u2 : (!(bs []).toList.isEmpty) = false := by rw [u1]; rfl
                  have HE := Lib.hid (show errOf hv ⟨fr, mn, []⟩ = none by rw [errOf_run hm1 (by omega) (by omega)]; rfl)
                  have hm2 : 0 < hv.length := by omega
                  obtain ⟨f, rfl⟩ := Int.eq_ofNat_of_zero_le (show 0 ≤ fr by omega)
                  obtain ⟨m, rfl⟩ := Int.eq_ofNat_of_zero_le (show 0 ≤ mn by omega)
                  have mz : ((m : Int) == 0) = false := by rw [beq_eq_false_iff_ne]; omega
                  obtain ⟨g1, o1, rfl, hg1', hc1⟩ := HD1.out (map_ne hm2)
                  have HC1 := Lib.hid hc1
                  have hq : opsVal hv (l.take (k + 1)) = opsVal hv (l.take k) ++ ((hv.drop f).take m).flatten := by
                    rw [hvl.out]; unfold opVal; rw [if_neg (by simp; omega)]; rfl
                  have HQ := Lib.hid hq
                  have hsz : ∀ j, j ≤ m → (opsVal hv (l.take k)).length + (((hv.drop f).take j).flatten).length ≤ 2 ^ 40 := fun j hj => by
                    have h1 := HV.out
                    have h2 : (((hv.drop f).take j).flatten).length ≤ (((hv.drop f).take m).flatten).length := by
                      rw [← Nat.add_sub_cancel' hj, List.take_add, List.flatten_append, List.length_append]; omega
                    rw [hq, List.length_append] at hvle2; omega
                  have HSZ := Lib.hid hsz
                  have hsz0 : (bs (opsVal hv (l.take k))).size + (bs []).size ≤ 2 ^ 41 := by rw [bs_size, bs_size]; have := HV.out; simp; omega
                  clear hq hsz hc1
                  obtain ⟨wo, rfl⟩ : ∃ wo : World, wo = wr := ⟨_, rfl⟩
                  go_wp2
                  go_loopg [7, 10] m (fun gg vs vj wx => (wo.alloc (.cells #[.int .i64 f, .int .i64 m, .string (bs [])] 46)) = wx ∧ ∃ j : Nat, j ≤ m ∧ gg = m - j ∧ vs = .string (bs (opsVal hv (l.take k) ++ ((hv.drop f).take j).flatten)) ∧ vj = .int .i64 j)
                  case atStart => exact ⟨rfl, 0, Nat.zero_le _, rfl, by rw [bs_append]; simp, rfl⟩
                  case round =>
                    obtain ⟨rfl, j, hj, rfl, rfl, rfl⟩ := hrel
                    by_cases hjm : j < m
                    · have hlt2 : f + j < hv.length := by omega
                      have cw : wo.cell? ⟨g1, o1 + (f + j), none⟩ = some (.string (bs hv[f + j])) := (hb.cell (p := ⟨g1, o1 + (f + j), none⟩) hg1').trans (HC1.out _ _ (by simp [hlt2]))
                      have cw' : g1 < wo.heap.size := by have := hb.size; omega
                      have hnx : ((hv.drop f).take (j + 1)).flatten = ((hv.drop f).take j).flatten ++ hv[f + j] := by
                        rw [List.take_succ_eq_append_getElem (by rw [List.length_drop]; omega), List.flatten_append, List.getElem_drop]; simp
                      have h2 := HSZ.out (j + 1) hjm
                      have hsz2 : (bs (opsVal hv (l.take k) ++ ((hv.drop f).take j).flatten)).size + (bs hv[f + j]).size ≤ 2 ^ 40 := by
                        rw [hnx, List.length_append] at h2
                        rw [bs_size, bs_size, List.length_append]; omega
                      have HNX := Lib.hid hnx
                      clear hnx h2
                      go_wp2
                      go_roundg (m - (j + 1))
                      case measure => omega
                      case rel => exact ⟨rfl, j + 1, hjm, rfl, by rw [bs_append, HNX.out, List.append_assoc], by go_num⟩
                    · obtain rfl : j = m := by omega
                      go_wp2
                      go_roundg (l.length - (k + 1))
                      case measure => omega
                      case rel => exact ⟨k + 1, by go_num, hlt, rfl, by rw [HQ.out]; exact Lib.hid rfl, hfe.out.trans (hstep.out HE.out), hb.alloc hb.size _⟩
                · have u1 := bs_ne_empty ht
                  have u2 : (!(bs tx).toList.isEmpty) = true := by rw [u1]; rfl
                  have HE := Lib.hid (show errOf hv ⟨fr, mn, tx⟩ = some false by rw [errOf_run hm1 (by omega) (by omega), if_pos ht])
                  clear ht
                  obtain ⟨t0, t1⟩ := res_cells (.int .i64 3) (.int .i64 (k : Int)) (.cells #[.int .i64 fr, .int .i64 mn, .string (bs tx)] 46) q0 q1
                  go_wp2
                  refine bodyPost_ret (v := .tuple #[.string ⟨#[]⟩, .agg #[.int .i64 3, .int .i64 (k : Int)]]) (by simp [results, Tryd.results17, go_sem, t0, t1]) rfl ?_
                  exact refPost_err false (hfe.out.trans (hhit.out _ HE.out)) (res_below HBW.out _ _ _) 3 rfl
        · obtain rfl : mn = 0 := by omega
          by_cases ht : tx = []
          · subst ht
            have u1 := bs_nil_empty
            have u2 : (!(bs []).toList.isEmpty) = false := by rw [u1]; rfl
            have HE := Lib.hid (show errOf hv ⟨fr, 0, []⟩ = some false by unfold errOf; rfl)
            obtain ⟨t0, t1⟩ := res_cells (.int .i64 3) (.int .i64 (k : Int)) (.cells #[.int .i64 fr, .int .i64 0, .string (bs [])] 46) q0 q1
            go_wp2
            refine bodyPost_ret (v := .tuple #[.string ⟨#[]⟩, .agg #[.int .i64 3, .int .i64 (k : Int)]]) (by simp [results, Tryd.results17, go_sem, t0, t1]) rfl ?_
            exact refPost_err false (hfe.out.trans (hhit.out _ HE.out)) (res_below HBW.out _ _ _) 3 rfl
          · have u1 := bs_ne_empty ht
            have u2 : (!(bs tx).toList.isEmpty) = true := by rw [u1]; rfl
            have HE := Lib.hid (show errOf hv ⟨fr, 0, tx⟩ = none by unfold errOf; rw [if_neg (by omega), if_neg (by omega), if_neg ht])
            have hq : opsVal hv (l.take (k + 1)) = opsVal hv (l.take k) ++ tx := by rw [hvl.out]; rfl
            have HQ := Lib.hid hq
            have hsz : (bs (opsVal hv (l.take k))).size + (bs tx).size ≤ 2 ^ 40 := by
              have h1 := HV.out
              rw [bs_size, bs_size, ← List.length_append, ← hq]; omega
            clear ht hq
            go_wp2
            go_rounds 1
            go_roundg (l.length - (k + 1))
            case measure => omega
            case rel => exact ⟨k + 1, by go_num, hlt, rfl, by rw [HQ.out, bs_append]; exact Lib.hid rfl, hfe.out.trans (hstep.out HE.out), hb.alloc hb.size _⟩
    · obtain rfl : k = l.length := by omega
      have hq : opsVal hv (l.take l.length) = opsVal hv l := by rw [List.take_of_length_le (Nat.le_refl _)]
      have hn : firstErr hv 0 l = none := by rw [hfe.out, firstErr_end]
      have hq2 : refText hv l = opsVal hv (l.take l.length) := by unfold refText; rw [hn, hq]
      have hq3 : refFault hv l = (0, -1) := by unfold refFault; rw [hn]
      have HQ2 := Lib.hid hq2
      have HQ3 := Lib.hid hq3
      clear hq hn hq2 hq3
      obtain ⟨t0, t1⟩ := res_cells (.int .i64 0) (.int .i64 (-1)) (.cells #[.int .i64 0, .int .i64 (-1)] 49) q0 q1
      go_wp2
      refine bodyPost_ret (v := .tuple #[.string (bs (opsVal hv (l.take l.length))), .agg #[.int .i64 0, .int .i64 (-1)]]) (by simp [results, Tryd.results17, go_sem, t0, t1]) rfl ?_
      exact ⟨by rw [HQ2.out, HQ3.out], res_below HBW.out _ _ _⟩
end Go.Proofs.YtanondjaooocgaaDoor

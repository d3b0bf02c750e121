/- Walk of delta.Apply: a difference is applied; the first one that is none is told. Conditions: the two errors' variables hold interface values; sizes below 2^40. -/
import Derived.Test.YtanondjaooocgaaDoorDelM
namespace Go.Proofs.YtanondjaooocgaaDoor
open Go.RowKit Go.Lib

/-- what is wrong with one: some true: bound; some false: shape -/
def errOf (hv : List Bytes) (o : DOp) : Option Bool :=
  if o.many < 0 then some true
  else if 0 < o.many then
    if o.from_ < 0 then some true else if (hv.length : Int) < o.from_ then some true else if (hv.length : Int) - o.from_ < o.many then some true
    else if o.text ≠ [] then some false else none
  else if o.text = [] then some false else none
/-- the first that is wrong -/
def firstErr (hv : List Bytes) (i : Nat) : List DOp → Option (Nat × Bool)
  | [] => none
  | o :: l => match errOf hv o with
    | some b => some (i, b)
    | none => firstErr hv (i + 1) l
theorem firstErr_step {hv : List Bytes} {l : List DOp} {k : Nat} (hk : k < l.length) (he : errOf hv l[k] = none) : firstErr hv k (l.drop k) = firstErr hv (k + 1) (l.drop (k + 1)) := by
  rw [List.drop_eq_getElem_cons hk, firstErr, he]
theorem firstErr_hit {hv : List Bytes} {l : List DOp} {k : Nat} {b : Bool} (hk : k < l.length) (he : errOf hv l[k] = some b) : firstErr hv k (l.drop k) = some (k, b) := by
  rw [List.drop_eq_getElem_cons hk, firstErr, he]
theorem firstErr_end {hv : List Bytes} {l : List DOp} : firstErr hv l.length (l.drop l.length) = none := by
  rw [List.drop_eq_nil_of_le (Nat.le_refl _)]; rfl
theorem errOf_ok {hv : List Bytes} {o : DOp} (h : opOk hv o) : errOf hv o = none := by
  unfold errOf
  rcases h with ⟨h1, h2⟩ | ⟨h1, h2, h3, h4⟩
  · rw [if_neg (by omega), if_neg (by omega), if_neg h2]
  · rw [if_neg (by omega), if_pos h1, if_neg (by omega), if_neg (by omega), if_neg (by omega), if_neg (by simpa using h2)]
theorem firstErr_ok {hv : List Bytes} (l : List DOp) (h : ∀ o ∈ l, opOk hv o) : ∀ i, firstErr hv i l = none := by
  induction l with
  | nil => intro i; rfl
  | cons o l ih =>
    intro i
    rw [firstErr, errOf_ok (h o List.mem_cons_self)]
    exact ih (fun q hq => h q (List.mem_cons_of_mem _ hq)) (i + 1)
theorem opsVal_take_succ (hv : List Bytes) (l : List DOp) (k : Nat) (h : k < l.length) : opsVal hv (l.take (k + 1)) = opsVal hv (l.take k) ++ opVal hv l[k] := by
  rw [List.take_succ_eq_append_getElem h, opsVal_append]; simp [opsVal]
theorem opsVal_take_le (hv : List Bytes) (l : List DOp) (k : Nat) : (opsVal hv (l.take k)).length ≤ (opsVal hv l).length := by
  conv => rhs; rw [← List.take_append_drop k l, opsVal_append, List.length_append]
  omega

/-- what Apply hands back -/
def ApplyPost (hv : List Bytes) (l : List DOp) (eB eS : Value) (w : World) (e : Ending) (w' : World) : Prop :=
  Below w.heap.size w w' ∧
  match firstErr hv 0 l with
  | none => e = .returned (.tuple #[.string (bs (opsVal hv l)), .nilIface])
  | some (i, b) => ∃ g, e = .returned (.tuple #[.string ByteArray.empty, .iface 37 (.pointer (some ⟨g, 0, none⟩))]) ∧ w.heap.size ≤ g ∧ w'.heap[g]? = some (.cells #[.int .i64 (i : Int), if b then eB else eS] 39 (0, 0))

theorem apply_err {hv : List Bytes} {l : List DOp} {eB eS u : Value} {w wr : World} {o : Obj} {k : Nat} (b : Bool) (hb : Below w.heap.size w wr) (h : firstErr hv 0 l = some (k, b)) (hu : u = if b then eB else eS) :
    ApplyPost hv l eB eS w (.returned (.tuple #[.string ByteArray.empty, .iface 37 (.pointer (some ⟨wr.heap.size + 1, 0, none⟩))])) ((wr.alloc o).alloc (.cells #[.int .i64 (k : Int), u] 39)) := by
  subst hu
  have hz := hb.size
  refine ⟨(hb.alloc hz _).alloc (by simp; omega) _, ?_⟩
  rw [h]
  refine ⟨wr.heap.size + 1, rfl, by omega, ?_⟩
  have := World.alloc_heap_new (wr.alloc o) (.cells #[.int .i64 (k : Int), if b then eB else eS] 39)
  rwa [World.size_alloc] at this
theorem bs_nil_empty : (bs []).toList.isEmpty = true := by rw [ByteArray.toList_eq, bs_toList]; rfl
theorem bs_ne_empty {a : Bytes} (h : a ≠ []) : (bs a).toList.isEmpty = false := by rw [ByteArray.toList_eq, bs_toList]; simpa using h

set_option maxRecDepth 100000 in
set_option maxHeartbeats 4000000 in
theorem DApply_any (old : ByteArray) (v : Value) (l : List DOp) (B : Nat) (T : TypeId) (pB pS : Value) (w : World) (ho : old.size ≤ 2 ^ 30) (ha : RdM w B 3 v l.length (opRow l)) (hB : B ≤ w.heap.size) (hl : l.length ≤ 2 ^ 30)
    (hval : (opsVal (pieces old.data.toList) l).length ≤ 2 ^ 40) (hwf : ∀ o ∈ l, (Lit.int .i64 o.from_).wf = true ∧ (Lit.int .i64 o.many).wf = true)
    (hg1 : 1 < w.heap.size) (hg2 : 2 < w.heap.size) (he1 : w.cell? ⟨1, 0, none⟩ = some (.iface T pB)) (he2 : w.cell? ⟨2, 0, none⟩ = some (.iface T pS)) :
    Calls Tryd.prog 8 #[.string old, v] w (ApplyPost (pieces old.data.toList) l (.iface T pB) (.iface T pS) w) := by
  have hl1 := pieces_length_le old.data.toList
  rw [← size_toList] at hl1
  have hmx := pieces_max old.data.toList
  generalize hH : pieces old.data.toList = hv at *
  have HH := Lib.hid hH
  have HV := Lib.hid hval
  have HWF := Lib.hid hwf
  have HMX := Lib.hid hmx
  clear hH hval hwf hmx
  obtain ⟨A, c, rfl, _, _, ha⟩ := ha
  go_enter Tryd.func8, Tryd.ntmps8
  go_wp2_with fail
  refine (Pieces_any old (by omega) _).mono ?_
  rintro e W1 ⟨v1, rfl, hr1, hb1⟩
  rw [HH.out] at hr1
  obtain ⟨A1, c1, rfl, hnc1, hd1⟩ := Rd.own hr1
  have hR1 := Rd.own hr1
  rw [List.length_map] at hR1 hnc1 ⊢
  go_wp2
  go_loopw [7, 16] (fun vs vi wr => ∃ k : Nat, vi = .int .i64 k ∧ k ≤ l.length ∧ Hid (vs = .string (bs (opsVal hv (l.take k)))) ∧ Hid (firstErr hv 0 l = firstErr hv k (l.drop k)) ∧ Below W1.heap.size W1 wr)
    (fun _ vi _ => l.length - (intOf vi).toNat)
  case atStart => exact ⟨0, rfl, Nat.zero_le _, rfl, rfl, Below.refl _ _⟩
  case round =>
    obtain ⟨k, rfl, hk, hvs, hfe, hb⟩ := hrel
    obtain rfl := hvs.out
    by_cases hlt : k < l.length
    · obtain ⟨g, o, rfl, hg, hc⟩ := ha (by omega)
      obtain ⟨x1, x2, x3⟩ := opRow_get hc k hlt
      have hgw : g < w.heap.size := by omega
      have hbw : Below w.heap.size w wr := hb1.trans (hb.mono hb1.size)
      have hgw2 : g < wr.heap.size := by have := hbw.size; omega
      replace x1 := (hbw.cell (p := ⟨g, o + k * 3, none⟩) hgw).trans x1
      replace x2 := (hbw.cell (p := ⟨g, o + k * 3 + 1, none⟩) hgw).trans x2
      replace x3 := (hbw.cell (p := ⟨g, o + k * 3 + 2, none⟩) hgw).trans x3
      have y1 := (hbw.cell (p := ⟨1, 0, none⟩) hg1).trans he1
      have y2 := (hbw.cell (p := ⟨2, 0, none⟩) hg2).trans he2
      have z1 : 1 < wr.heap.size := by have := hbw.size; omega
      have z2 : 2 < wr.heap.size := by have := hbw.size; omega
      obtain ⟨wf1, wf2⟩ := HWF.out l[k] (List.getElem_mem hlt)
      have hstep := Lib.hid (firstErr_step (hv := hv) hlt)
      have hhit := Lib.hid (fun b => firstErr_hit (hv := hv) (b := b) hlt)
      have hvl := Lib.hid (opsVal_take_succ hv l k hlt)
      have hvle := opsVal_take_le hv l k
      have hvle2 := opsVal_take_le hv l (k + 1)
      have HEO := Lib.hid (show errOf hv l[k] = _ from rfl)
      clear hc ha
      generalize l[k] = op at *
      obtain ⟨fr, mn, tx⟩ := op
      have bd1 := bounds_i64 wf1
      have bd2 := bounds_i64 wf2
      by_cases hm0 : mn < 0
      · have HE := Lib.hid (show errOf hv ⟨fr, mn, tx⟩ = some true by unfold errOf; rw [if_pos hm0])
        go_wp2
        go_ret2
        exact apply_err true hbw (hfe.out.trans (hhit.out _ HE.out)) rfl
      · by_cases hm1 : 0 < mn
        · by_cases hf0 : fr < 0
          · have HE := Lib.hid (show errOf hv ⟨fr, mn, tx⟩ = some true by unfold errOf; rw [if_neg hm0, if_pos hm1, if_pos hf0])
            go_wp2
            go_ret2
            exact apply_err true hbw (hfe.out.trans (hhit.out _ HE.out)) rfl
          · by_cases hf1 : (hv.length : Int) < fr
            · have HE := Lib.hid (show errOf hv ⟨fr, mn, tx⟩ = some true by unfold errOf; rw [if_neg hm0, if_pos hm1, if_neg hf0, if_pos hf1])
              go_wp2
              go_ret2
              exact apply_err true hbw (hfe.out.trans (hhit.out _ HE.out)) rfl
            · by_cases hf2 : (hv.length : Int) - fr < mn
              · have HE := Lib.hid (show errOf hv ⟨fr, mn, tx⟩ = some true by unfold errOf; rw [if_neg hm0, if_pos hm1, if_neg hf0, if_neg hf1, if_pos hf2])
                go_wp2
                go_ret2
                exact apply_err true hbw (hfe.out.trans (hhit.out _ HE.out)) rfl
              · have mz : (mn == 0) = false := by rw [beq_eq_false_iff_ne]; omega
                by_cases ht : tx = []
                · subst ht
                  have t1 := bs_nil_empty
                  have HE := Lib.hid (show errOf hv ⟨fr, mn, []⟩ = none by unfold errOf; rw [if_neg hm0, if_pos hm1, if_neg hf0, if_neg hf1, if_neg hf2]; rfl)
                  have hm2 : 0 < hv.length := by omega
                  obtain ⟨f, rfl⟩ := Int.eq_ofNat_of_zero_le (show 0 ≤ fr by omega)
                  obtain ⟨m, rfl⟩ := Int.eq_ofNat_of_zero_le (show 0 ≤ mn by omega)
                  obtain ⟨g1, o1, rfl, hg1', hc1⟩ := hd1 (map_ne hm2)
                  have HC1 := Lib.hid hc1
                  have hq : opsVal hv (l.take (k + 1)) = opsVal hv (l.take k) ++ ((hv.drop f).take m).flatten := by
                    rw [hvl.out]; unfold opVal; rw [if_neg (by simp; omega)]; rfl
                  have HQ := Lib.hid hq
                  have hsz : ∀ j, j ≤ m → (opsVal hv (l.take k)).length + (((hv.drop f).take j).flatten).length ≤ 2 ^ 40 := fun j hj => by
                    have h1 := HV.out
                    have h2 : (((hv.drop f).take j).flatten).length ≤ (((hv.drop f).take m).flatten).length := by
                      rw [← Nat.add_sub_cancel' hj, List.take_add, List.flatten_append, List.length_append]; omega
                    rw [hq, List.length_append] at hvle2; omega
                  have HSZ := Lib.hid hsz
                  clear hq hsz hc1 hd1
                  obtain ⟨wo, rfl⟩ : ∃ wo : World, wo = wr := ⟨_, rfl⟩
                  go_wp2
                  go_loop [7, 87] (fun vs vj => ∃ j : Nat, j ≤ m ∧ vs = .string (bs (opsVal hv (l.take k) ++ ((hv.drop f).take j).flatten)) ∧ vj = .int .i64 j) (fun _ vj => m - (intOf vj).toNat)
                  case atStart => exact ⟨0, Nat.zero_le _, by simp, rfl⟩
                  case round =>
                    obtain ⟨j, hj, rfl, rfl⟩ := hrel
                    by_cases hjm : j < m
                    · have hlt2 : f + j < hv.length := by omega
                      have cw : wo.cell? ⟨g1, o1 + (f + j), none⟩ = some (.string (bs hv[f + j])) := (hb.cell (p := ⟨g1, o1 + (f + j), none⟩) hg1').trans (HC1.out _ _ (by simp [hlt2]))
                      have cw' : g1 < wo.heap.size := by have := hb.size; omega
                      have hnx : ((hv.drop f).take (j + 1)).flatten = ((hv.drop f).take j).flatten ++ hv[f + j] := by
                        rw [List.take_succ_eq_append_getElem (by rw [List.length_drop]; omega), List.flatten_append, List.getElem_drop]; simp
                      have h2 := HSZ.out (j + 1) hjm
                      have hsz2 : (bs (opsVal hv (l.take k) ++ ((hv.drop f).take j).flatten)).size + (bs hv[f + j]).size ≤ 2 ^ 40 := by
                        rw [hnx, List.length_append] at h2
                        rw [bs_size, bs_size, List.length_append]; omega
                      have HNX := Lib.hid hnx
                      clear hnx h2
                      go_wp2
                      go_round
                      case rel => exact ⟨j + 1, hjm, by rw [bs_append, HNX.out, List.append_assoc], by go_num⟩
                      case measure => simp [intOf]; omega
                    · obtain rfl : j = m := by omega
                      go_wp2
                      go_roundw
                      case rel => exact ⟨k + 1, by go_num, hlt, by rw [HQ.out]; rfl, hfe.out.trans (hstep.out HE.out), hb.alloc hb.size _⟩
                      case measure => simp [intOf]; omega
                · have t1 := bs_ne_empty ht
                  have HE := Lib.hid (show errOf hv ⟨fr, mn, tx⟩ = some false by unfold errOf; rw [if_neg hm0, if_pos hm1, if_neg hf0, if_neg hf1, if_neg hf2, if_pos ht])
                  clear ht
                  go_wp2
                  go_ret2
                  exact apply_err false hbw (hfe.out.trans (hhit.out _ HE.out)) rfl
        · obtain rfl : mn = 0 := by omega
          by_cases ht : tx = []
          · subst ht
            have t1 := bs_nil_empty
            have HE := Lib.hid (show errOf hv ⟨fr, 0, []⟩ = some false by unfold errOf; rfl)
            go_wp2
            go_ret2
            exact apply_err false hbw (hfe.out.trans (hhit.out _ HE.out)) rfl
          · have t1 := bs_ne_empty ht
            have HE := Lib.hid (show errOf hv ⟨fr, 0, tx⟩ = none by unfold errOf; rw [if_neg (by omega), if_neg (by omega), if_neg ht])
            have hq : opsVal hv (l.take (k + 1)) = opsVal hv (l.take k) ++ tx := by rw [hvl.out]; rfl
            have HQ := Lib.hid hq
            have hsz : (bs (opsVal hv (l.take k))).size + (bs tx).size ≤ 2 ^ 40 := by
              have h1 := HV.out
              rw [bs_size, bs_size, ← List.length_append, ← hq]; omega
            clear ht hq
            go_wp2
            go_rounds 1
            go_roundw
            case rel => exact ⟨k + 1, by go_num, hlt, by rw [HQ.out, bs_append]; rfl, hfe.out.trans (hstep.out HE.out), hb.alloc hb.size _⟩
            case measure => simp [intOf]; omega
    · obtain rfl : k = l.length := by omega
      clear ha
      have hq : opsVal hv (l.take l.length) = opsVal hv l := by rw [List.take_of_length_le (Nat.le_refl _)]
      have HQ := Lib.hid hq
      clear hq
      go_wp2
      go_ret2
      refine ⟨hb1.trans (hb.mono hb1.size), ?_⟩
      rw [hfe.out, firstErr_end, ← HQ.out]
      rfl
end Go.Proofs.YtanondjaooocgaaDoor

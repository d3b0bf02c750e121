/- Walk of delta.Make: it makes the difference of the plain words. Condition: texts of at most 2^30 bytes. -/
import Derived.Test.YtanondjaooocgaaDoorDelW
import Derived.Test.YtanondjaooocgaaDoorHeld
import Derived.Deep.AppendLies
namespace Go.Proofs.YtanondjaooocgaaDoor
open Go.RowKit Go.Lib

theorem info_op : (Tryd.prog.info? 45).map (fun i => (i.zero, i.size, i.bytes)) = some (some (.agg #[.int .i64 0, .int .i64 0, .string ByteArray.empty]), 3, 32) := by kernel_rfl
theorem cells_new (w : World) (a b c : Value) (t : TypeId) : ∀ j u, [a, b, c][j]? = some u → (w.alloc (.cells #[a, b, c] t)).cell? ((⟨w.heap.size, 0, none⟩ : Addr).add j) = some u := by
  intro j u h
  match j, h with
  | 0, h => simp at h; subst h; simp [Addr.add, go_sem]
  | 1, h => simp at h; subst h; simp [Addr.add, go_sem]
  | 2, h => simp at h; subst h; simp [Addr.add, go_sem]
  | j + 3, h => simp at h

theorem bs_append (a b : Bytes) : bs a ++ bs b = bs (a ++ b) := by
  apply ba_ext; rw [bs_toList]; simp [bs]
theorem opRow_set (d : List DOp) (o : DOp) (t : Bytes) : (opRow (d ++ [o])).set (d.length * 3 + 2) (.string (bs t)) = opRow (d ++ [{ o with text := t }]) := by
  rw [opRow_append, opRow_append, List.set_append_right _ _ (by rw [opRow_length]; omega), opRow_length, Nat.add_sub_cancel_left]
  rfl

/-- the relation of the loop: what is still to be made of the pieces from i on -/
def MkRel (hv want : List Bytes) (i : Nat) (out : List DOp) : Prop := ∃ f, (want.drop i).length ≤ f ∧ mkD hv f (want.drop i) out = mkD hv want.length want []
theorem mkrel_end {hv want : List Bytes} {out : List DOp} (h : MkRel hv want want.length out) : out = mkD hv want.length want [] := by
  obtain ⟨f, _, h⟩ := h
  rw [List.drop_eq_nil_of_le (Nat.le_refl _), mkD_nil] at h
  exact h
theorem mkrel_text {hv want : List Bytes} {i : Nat} {out : List DOp} (h : MkRel hv want i out) (hi : i < want.length) (hf : fi hv want[i] = none) : MkRel hv want (i + 1) (addText out want[i]) := by
  obtain ⟨f, hl, h⟩ := h
  rw [List.drop_eq_getElem_cons hi] at h hl
  cases f with
  | zero => simp only [List.length_cons, List.length_drop] at hl; omega
  | succ f =>
    refine ⟨f, by simp only [List.length_cons, List.length_drop] at hl ⊢; omega, ?_⟩
    rw [mkD, hf] at h
    exact h
theorem mkrel_run {hv want : List Bytes} {i k n : Nat} {out : List DOp} (h : MkRel hv want i out) (hi : i < want.length) (hf : fi hv want[i] = some k)
    (hn : n = common (hv.drop (k + 1)) (want.drop (i + 1)) + 1) : MkRel hv want (i + n) (out ++ [⟨k, n, []⟩]) := by
  obtain ⟨f, hl, h⟩ := h
  rw [List.drop_eq_getElem_cons hi] at h hl
  cases f with
  | zero => simp only [List.length_cons, List.length_drop] at hl; omega
  | succ f =>
    refine ⟨f, ?_, ?_⟩
    · simp only [List.length_cons, List.length_drop] at hl ⊢; omega
    · rw [mkD, hf] at h
      simp only [List.drop_drop] at h
      rw [← h, hn, show i + (common (hv.drop (k + 1)) (want.drop (i + 1)) + 1) = i + 1 + common (hv.drop (k + 1)) (want.drop (i + 1)) from by omega]
      rfl
theorem addText_new {out : List DOp} {p : Bytes} (h : out = [] ∨ ∃ o, out.getLast? = some o ∧ o.many ≠ 0) : addText out p = out ++ [⟨0, 0, p⟩] := by
  rcases h with rfl | ⟨o, h, hm⟩
  · rfl
  · unfold addText; rw [h]; simp [hm]
theorem addText_more {out : List DOp} {p : Bytes} {o : DOp} (h : out.getLast? = some o) (hm : o.many = 0) : addText out p = out.dropLast ++ [{ o with text := o.text ++ p }] := by
  unfold addText; rw [h]; simp [hm]

set_option maxRecDepth 100000 in
set_option maxHeartbeats 4000000 in
theorem DMake_any (old s : ByteArray) (ho : old.size ≤ 2 ^ 30) (hs : s.size ≤ 2 ^ 30) (w : World) :
    Calls Tryd.prog 7 #[.string old, .string s] w fun e W' => ∃ v, e = .returned v ∧
      W'.ownsRow w.heap.size 45 3 v (mkD (pieces old.data.toList) (pieces s.data.toList).length (pieces s.data.toList) []).length (opRow (mkD (pieces old.data.toList) (pieces s.data.toList).length (pieces s.data.toList) [])) ∧ Below w.heap.size w W' := by
  obtain ⟨i0, hi, hz0, hz1, hz2⟩ := info_parts info_op
  have hl1 := pieces_length_le old.data.toList
  have hl2 := pieces_length_le s.data.toList
  rw [← size_toList] at hl1 hl2
  generalize hH : pieces old.data.toList = hv at *
  generalize hW : pieces s.data.toList = want at *
  have HH := Lib.hid hH
  have HW := Lib.hid hW
  have hfl := pieces_flatten s.data.toList
  rw [hW] at hfl
  have htot := tot_le want
  rw [hfl, ← size_toList] at htot
  have HTO := Lib.hid htot
  clear hH hW hfl htot
  go_enter Tryd.func7, Tryd.ntmps7
  go_wp2_with fail
  refine (Pieces_any old (by omega) _).mono ?_
  rintro e W1 ⟨v1, rfl, hr1, hb1⟩
  go_wp2_with fail
  refine (Pieces_any s (by omega) _).mono ?_
  rintro e W2 ⟨v2, rfl, hr2, hb2⟩
  rw [HH.out] at hr1
  rw [HW.out] at hr2
  have hR1 := ((Rd.own hr1).below hb2).more hb2.size
  obtain ⟨A2, c2, rfl, _, hd2⟩ := Rd.own hr2
  obtain ⟨A1, c1, rfl, hnc1, hd1⟩ := hR1
  have hR1 := ((Rd.own hr1).below hb2).more hb2.size
  rw [List.length_map]
  rw [List.length_map] at hR1 hnc1 ⊢
  go_wp2
  have hbw : Below w.heap.size w W2 := hb1.trans (hb2.mono hb1.size)
  go_loopw [7, 8] (fun vo vi wr => ∃ (i : Nat) (out : List DOp), vi = .int .i64 i ∧ i ≤ want.length ∧ out.length ≤ i ∧ Hid (MkRel hv want i out) ∧ opsSize out ≤ tot want i ∧ wr.ownsRow W2.heap.size 45 3 vo out.length (opRow out) ∧ Below W2.heap.size W2 wr)
    (fun _ vi _ => want.length - (intOf vi).toNat)
  case atStart => exact ⟨0, [], rfl, Nat.zero_le _, Nat.le_refl _, ⟨want.length, by simp, by simp⟩, Nat.zero_le _, World.ownsRow_nil _ _ _ _, Below.refl _ _⟩
  case round =>
    obtain ⟨i, out, rfl, hik, hol, hm, hsz, hrow, hB⟩ := hrel
    by_cases hlt : i < want.length
    · obtain ⟨g2, o2, rfl, hg2, hc2⟩ := hd2 (map_ne hlt)
      have cw : wr.cell? ⟨g2, o2 + i, none⟩ = some (.string (bs want[i])) := (hB.cell (p := ⟨g2, o2 + i, none⟩) hg2).trans (hc2 i _ (by simp [hlt]))
      have HR := Lib.hid (hR1.below hB)
      have HC2 := Lib.hid hc2
      have HD1 := Lib.hid hd1
      have ht1 := HTO.out i
      have ht2 := HTO.out (i + 1)
      have hts := tot_succ want i hlt
      clear hc2 hd2 hd1
      cases hf : fi hv want[i] with
      | none =>
        have hidx : idxI hv want[i] = -1 := by unfold idxI; rw [hf]
        have HI := Lib.hid hidx
        have HM := Lib.hid (mkrel_text hm.out hlt hf)
        have HSZ : opsSize (addText out want[i]) ≤ tot want (i + 1) := by rw [addText_size, hts]; omega
        clear hidx hf
        cases hlast : out.getLast? with
        | none =>
          rw [List.getLast?_eq_none_iff] at hlast
          subst hlast
          obtain ⟨A7, c7, rfl, _⟩ := own_form hrow
          have HT := Lib.hid (addText_new (out := []) (p := want[i]) (.inl rfl))
          go_wp2_with (first | (go_at_call 20; refine (Index_any _ want[i] hv _ _ HR.out (by omega)).mono ?_; rintro e w5 ⟨rfl, rfl⟩; rw [HI.out]) | (at_builtin; refine wpList_append_own _ rfl _ _ 23 rfl W2.heap.size 45 i0 (.agg #[.int .i64 0, .int .i64 0, .string ByteArray.empty]) 3 32 Tryd.underlying23 hi hz0 hz1 hz2 rfl (by decide) _ _ _ rfl (hrow.alloc _) ⟨wr.heap.size, 0, none⟩ 1 1 [.int .i64 0, .int .i64 0, .string (bs want[i])] rfl rfl (cells_new _ _ _ _ _) (by simp [Value.oneCell']) (by unfold maxLen; omega) (by omega) (by have := hB.size; simp; omega) ?_; intro v' w1 hown' hgrow _))
          go_roundw
          case rel => exact ⟨i + 1, _, by go_num, hlt, by rw [HT.out]; simp, HM, HSZ, by rw [HT.out]; exact hown', below_append hB hB.size hrow hgrow⟩
          case measure => simp [intOf]; omega
        | some o =>
          obtain ⟨m, hm1⟩ : ∃ m, out.length = m + 1 := by
            rcases Nat.eq_zero_or_pos out.length with h | h
            · rw [List.eq_nil_of_length_eq_zero h] at hlast; cases hlast
            · exact ⟨out.length - 1, by omega⟩
          have hlt3 : m < out.length := by omega
          have hls := last_size hlast
          have hs1 : (bs o.text).size + (bs want[i]).size ≤ 2 ^ 30 := by rw [bs_size, bs_size]; omega
          have hom : out[m] = o := by
            rw [List.getLast?_eq_getElem?, hm1, Nat.add_sub_cancel, List.getElem?_eq_getElem hlt3] at hlast
            injection hlast
          obtain ⟨g, cap, rfl, hgb, hgl⟩ := hrow.form (by omega)
          have c1 : wr.cell? ⟨g, m * 3 + 1, none⟩ = some (.int .i64 o.many) := by
            rw [hrow.cellAt _ (by omega), opRow_at out m hlt3 1 (by decide), hom]; rfl
          have c2 : wr.cell? ⟨g, m * 3 + 2, none⟩ = some (.string (bs o.text)) := by
            rw [hrow.cellAt _ (by omega), opRow_at out m hlt3 2 (by decide), hom]; rfl
          rw [hm1] at hrow hol ⊢
          by_cases hz : o.many = 0
          · have hq : (o.many == 0) = true := by rw [hz]; rfl
            have HT := Lib.hid (addText_more (p := want[i]) hlast hz)
            have hsp := last_split hlast
            have HSP := Lib.hid hsp
            have HM1 := Lib.hid hm1
            have b1 : (0 : Int) ≤ (m : Int) := by omega
            have b2 : (m : Int) < (m : Int) + 1 := by omega
            have b3 : (0 : Int) ≤ (i : Int) := by omega
            have b4 : (i : Int) < (want.length : Int) := by omega
            have f1 : wr.frozen? ⟨g, m * 3 + 2, none⟩ = false := hrow.frozenAt _
            clear hz hlast hom hm1 hsp
            go_wp2_with (go_at_call 20; refine (Index_any _ want[i] hv _ _ HR.out (by omega)).mono ?_; rintro e w5 ⟨rfl, rfl⟩; rw [HI.out])
            refine region_S (fun w' => w'.cell? ⟨g, m * 3 + 2, none⟩ = some (.string (bs o.text)) ∧ w'.cell? ⟨g2, o2 + i, none⟩ = some (.string (bs want[i]))) 12 (by kernel_rfl) (by kernel_rfl) ?_
            refine take_S 0 rfl (by kernel_rfl) (by kernel_rfl) ⟨c2, cw⟩ (by rintro w' ⟨h1, h2⟩; go_simp; rfl) ?_
            refine take_S 1 rfl (by kernel_rfl) (by kernel_rfl) ⟨c2, cw⟩ (by rintro w' ⟨h1, h2⟩; go_simp; rfl) ?_
            refine take_S 2 rfl (by kernel_rfl) (by kernel_rfl) ⟨c2, cw⟩ (by rintro w' ⟨h1, h2⟩; go_simp; rfl) ?_
            refine take_S 3 rfl (by kernel_rfl) (by kernel_rfl) ⟨c2, cw⟩ (by rintro w' ⟨h1, h2⟩; go_simp; rfl) ?_
            refine take_S 4 rfl (by kernel_rfl) (by kernel_rfl) ⟨c2, cw⟩ (by rintro w' ⟨h1, h2⟩; go_simp; rfl) ?_
            refine take_S 5 rfl (by kernel_rfl) (by kernel_rfl) ⟨c2, cw⟩ (by rintro w' ⟨h1, h2⟩; go_simp; rfl) ?_
            refine take_S 6 rfl (by kernel_rfl) (by kernel_rfl) ⟨c2, cw⟩ (by rintro w' ⟨h1, h2⟩; go_simp; rfl) ?_
            refine take_S 7 rfl (by kernel_rfl) (by kernel_rfl) ⟨c2, cw⟩ (by rintro w' ⟨h1, h2⟩; go_simp; rfl) ?_
            refine take_S 8 rfl (by kernel_rfl) (by kernel_rfl) ⟨c2, cw⟩ (by rintro w' ⟨h1, h2⟩; go_simp; rfl) ?_
            refine take_S 9 rfl (by kernel_rfl) (by kernel_rfl) ⟨c2, cw⟩ (by rintro w' ⟨h1, h2⟩; go_simp; rw [if_neg (by omega)]) ?_
            refine take_S 10 rfl (by kernel_rfl) (by kernel_rfl) ⟨c2, cw⟩ (by rintro w' ⟨h1, h2⟩; go_simp; rfl) ?_
            refine take_S 11 rfl (by kernel_rfl) (by kernel_rfl) ⟨c2, cw⟩ (by rintro w' ⟨h1, h2⟩; go_simp; rfl) ?_
            refine forced_S (by kernel_rfl) ?_
            simp only [List.drop_succ_cons, List.drop_zero]
            go_wp2
            go_roundw
            case rel =>
              have hstd := (hrow.stored (m * 3 + 2) (.string (bs o.text ++ bs want[i])))
              have hdl : out.dropLast.length = m := by rw [List.length_dropLast, HM1.out]; rfl
              have hset : (opRow out).set (m * 3 + 2) (.string (bs o.text ++ bs want[i])) = opRow (addText out want[i]) := by
                rw [HT.out]
                conv => lhs; rw [HSP.out]
                rw [← hdl, bs_append, opRow_set]
              refine ⟨i + 1, _, by go_num, hlt, ?_, HM, HSZ, ?_, hB.trans ((((Below.refl _ _).setCell hgb _)).drew)⟩
              · rw [HT.out, List.length_append, hdl, List.length_singleton]; omega
              · rw [← hset]
                have : (addText out want[i]).length = m + 1 := by rw [HT.out, List.length_append, hdl, List.length_singleton]
                rw [this]
                exact hstd.1
            case measure => simp [intOf]; omega
          · have hq : (o.many == 0) = false := by rw [beq_eq_false_iff_ne]; exact hz
            have HT := Lib.hid (addText_new (out := out) (p := want[i]) (.inr ⟨o, hlast, hz⟩))
            have HM1 := Lib.hid hm1
            clear hz hlast hom hm1
            go_wp2_with (first | (go_at_call 20; refine (Index_any _ want[i] hv _ _ HR.out (by omega)).mono ?_; rintro e w5 ⟨rfl, rfl⟩; rw [HI.out]) | (at_builtin; refine wpList_append_own _ rfl _ _ 23 rfl W2.heap.size 45 i0 (.agg #[.int .i64 0, .int .i64 0, .string ByteArray.empty]) 3 32 Tryd.underlying23 hi hz0 hz1 hz2 rfl (by decide) _ _ _ rfl (hrow.alloc _) ⟨wr.heap.size, 0, none⟩ 1 1 [.int .i64 0, .int .i64 0, .string (bs want[i])] rfl rfl (cells_new _ _ _ _ _) (by simp [Value.oneCell']) (by unfold maxLen; omega) (by omega) (by have := hB.size; simp; omega) ?_; intro v' w1 hown' hgrow _))
            go_roundw
            case rel => exact ⟨i + 1, _, by go_num, hlt, by rw [HT.out]; simp [HM1.out]; omega, HM, HSZ, by rw [HT.out, opRow_append, List.length_append, HM1.out]; exact hown', below_append hB hB.size hrow hgrow⟩
            case measure => simp [intOf]; omega
      | some k =>
        have hidx : idxI hv want[i] = (k : Int) := by unfold idxI; rw [hf]
        have HI := Lib.hid hidx
        obtain ⟨hkl, hke⟩ := fi_lt hf
        have HKE := Lib.hid hke
        have HM := Lib.hid (fun (n : Nat) hn => mkrel_run (n := n) hm.out hlt hf hn)
        clear hidx hf hke
        obtain ⟨g1, o1, rfl, hg1, hc1⟩ := HD1.out (map_ne hkl)
        have HC1 := Lib.hid hc1
        clear hc1
        obtain ⟨A7, c7, rfl, hnc7, _⟩ := own_form hrow
        obtain ⟨wo, rfl⟩ : ∃ wo : World, wo = wr := ⟨_, rfl⟩
        have hB' := hB
        have hrow' := hrow
        go_wp2_with (go_at_call 20; refine (Index_any _ want[i] hv _ _ HR.out (by omega)).mono ?_; rintro e w5 ⟨rfl, rfl⟩; rw [HI.out])
        go_loopw [11] (fun vn wx => ∃ n : Nat, vn = .int .i64 n ∧ 1 ≤ n ∧ i + n ≤ want.length ∧ k + n ≤ hv.length ∧ Hid (common (hv.drop (k + n)) (want.drop (i + n)) + n = common (hv.drop (k + 1)) (want.drop (i + 1)) + 1) ∧ ∃ q, wx = wo.drewN q)
          (fun vn _ => want.length - (intOf vn).toNat)
        case atStart => exact ⟨1, rfl, Nat.le_refl _, by omega, by omega, rfl, 0, rfl⟩
        case round =>
          obtain ⟨n, rfl, hn1, hin, hkn, hcm, q, rfl⟩ := hrel
          have s1 : IntKind.i64.wrap ((i : Int) + (n : Int)) = (i : Int) + n := IntWalk.i64_in _ (by omega)
          have s2 : IntKind.i64.wrap ((k : Int) + (n : Int)) = (k : Int) + n := IntWalk.i64_in _ (by omega)
          have s3 : (0 : Int) ≤ (i : Int) + n := by omega
          have s4 : (0 : Int) ≤ (k : Int) + n := by omega
          have s5 : ((i : Int) + (n : Int)).toNat = i + n := by omega
          have s6 : ((k : Int) + (n : Int)).toNat = k + n := by omega
          have HSZ : ∀ n : Nat, opsSize (out ++ [⟨k, n, []⟩]) ≤ tot want (i + n) := fun n => by
            have := tot_mono want i n
            rw [opsSize_append]; simp [opsSize] at hsz ⊢; omega
          have HSZ := Lib.hid HSZ
          by_cases h1 : i + n < want.length
          · have q1 : (i : Int) + n < (want.length : Int) := by omega
            by_cases h2 : k + n < hv.length
            · have q2 : (k : Int) + n < (hv.length : Int) := by omega
              have cw2 : wo.cell? ⟨g2, o2 + (i + n), none⟩ = some (.string (bs want[i + n])) := (hB.cell (p := ⟨g2, o2 + (i + n), none⟩) hg2).trans (HC2.out _ _ (by simp [h1]))
              have cw1 : wo.cell? ⟨g1, o1 + (k + n), none⟩ = some (.string (bs hv[k + n])) := (hB.cell (p := ⟨g1, o1 + (k + n), none⟩) hg1).trans (HC1.out _ _ (by simp [h2]))
              by_cases he : hv[k + n] = want[i + n]
              · have q3 : ((bs hv[k + n]).toList == (bs want[i + n]).toList) = true := by rw [bs_beq]; simpa using he
                have HN : Hid (common (hv.drop (k + (n + 1))) (want.drop (i + (n + 1))) + (n + 1) = common (hv.drop (k + 1)) (want.drop (i + 1)) + 1) := by
                  have h := hcm.out
                  rw [common_step h2 h1 he] at h
                  exact Lib.hid (by rw [← h, ← Nat.add_assoc k, ← Nat.add_assoc i]; omega)
                clear he
                go_wp2
                go_quiet (fail)
                go_wp2
                go_roundw
                case rel => exact ⟨n + 1, by go_num, by omega, by omega, by omega, HN, _, rfl⟩
                case measure => simp [intOf]; omega
              · have q3 : ((bs hv[k + n]).toList == (bs want[i + n]).toList) = false := by rw [bs_beq]; simpa using he
                have HN : Hid (n = common (hv.drop (k + 1)) (want.drop (i + 1)) + 1) := by
                  have h := hcm.out
                  rw [common_stop h2 h1 he] at h
                  exact Lib.hid (by omega)
                clear he
                go_wp2
                go_quiet (fail)
                go_wp2_with (at_builtin; refine wpList_append_own _ rfl _ _ 23 rfl W2.heap.size 45 i0 (.agg #[.int .i64 0, .int .i64 0, .string ByteArray.empty]) 3 32 Tryd.underlying23 hi hz0 hz1 hz2 rfl (by decide) _ _ _ rfl (hrow.alloc _) ⟨wo.heap.size, 0, none⟩ 1 1 [.int .i64 k, .int .i64 n, .string ByteArray.empty] rfl rfl (cells_new wo _ _ _ _) (by simp [Value.oneCell']) (by unfold maxLen; omega) (by omega) (by have := hB.size; simp; omega) ?_; intro v' w1 hown' hgrow _)
                go_roundw
                case rel => exact ⟨i + n, _, by go_num, hin, by simp; omega, HM.out n HN.out, HSZ.out n, by rw [opRow_append, List.length_append]; exact hown', below_append hB hB.size hrow ⟨hgrow.os, hgrow.tape, hgrow.output, hgrow.size, hgrow.block⟩⟩
                case measure => simp [intOf]; omega
            · have q2 : decide ((k : Int) + n < (hv.length : Int)) = false := by rw [decide_eq_false_iff_not]; omega
              have HN : Hid (n = common (hv.drop (k + 1)) (want.drop (i + 1)) + 1) := by
                have h := hcm.out
                rw [common_out (.inl (by omega))] at h
                exact Lib.hid (by omega)
              clear h2
              go_wp2
              go_quiet (fail)
              go_wp2_with (at_builtin; refine wpList_append_own _ rfl _ _ 23 rfl W2.heap.size 45 i0 (.agg #[.int .i64 0, .int .i64 0, .string ByteArray.empty]) 3 32 Tryd.underlying23 hi hz0 hz1 hz2 rfl (by decide) _ _ _ rfl (hrow.alloc _) ⟨wo.heap.size, 0, none⟩ 1 1 [.int .i64 k, .int .i64 n, .string ByteArray.empty] rfl rfl (cells_new wo _ _ _ _) (by simp [Value.oneCell']) (by unfold maxLen; omega) (by omega) (by have := hB.size; simp; omega) ?_; intro v' w1 hown' hgrow _)
              go_roundw
              case rel => exact ⟨i + n, _, by go_num, hin, by simp; omega, HM.out n HN.out, HSZ.out n, by rw [opRow_append, List.length_append]; exact hown', below_append hB hB.size hrow ⟨hgrow.os, hgrow.tape, hgrow.output, hgrow.size, hgrow.block⟩⟩
              case measure => simp [intOf]; omega
          · have q1 : decide ((i : Int) + n < (want.length : Int)) = false := by rw [decide_eq_false_iff_not]; omega
            have HN : Hid (n = common (hv.drop (k + 1)) (want.drop (i + 1)) + 1) := by
              have h := hcm.out
              rw [common_out (.inr (by omega))] at h
              exact Lib.hid (by omega)
            clear h1
            go_wp2
            go_quiet (fail)
            go_wp2_with (at_builtin; refine wpList_append_own _ rfl _ _ 23 rfl W2.heap.size 45 i0 (.agg #[.int .i64 0, .int .i64 0, .string ByteArray.empty]) 3 32 Tryd.underlying23 hi hz0 hz1 hz2 rfl (by decide) _ _ _ rfl (hrow.alloc _) ⟨wo.heap.size, 0, none⟩ 1 1 [.int .i64 k, .int .i64 n, .string ByteArray.empty] rfl rfl (cells_new wo _ _ _ _) (by simp [Value.oneCell']) (by unfold maxLen; omega) (by omega) (by have := hB.size; simp; omega) ?_; intro v' w1 hown' hgrow _)
            go_roundw
            case rel => exact ⟨i + n, _, by go_num, hin, by simp; omega, HM.out n HN.out, HSZ.out n, by rw [opRow_append, List.length_append]; exact hown', below_append hB hB.size hrow ⟨hgrow.os, hgrow.tape, hgrow.output, hgrow.size, hgrow.block⟩⟩
            case measure => simp [intOf]; omega
    · obtain rfl : i = want.length := by omega
      have hfin := mkrel_end hm.out
      have HFN := Lib.hid hfin
      clear hfin hd1 hd2
      go_wp2
      go_ret
      refine ⟨_, rfl, ?_, hbw.trans (hB.mono hbw.size)⟩
      rw [← HFN.out]
      exact hrow.mono hbw.size
end Go.Proofs.YtanondjaooocgaaDoor

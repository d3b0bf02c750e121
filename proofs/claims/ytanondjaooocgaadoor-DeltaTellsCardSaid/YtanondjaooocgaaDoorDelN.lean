/- Walk of the reference's MakeOf: it makes the difference of the plain words, too. Condition: texts of at most 2^30 bytes. -/
import Derived.Test.YtanondjaooocgaaDoorDelP
import Derived.Test.YtanondjaooocgaaDoorCutR
import Derived.Deep.LoopGhost
import Derived.Deep.CutRange
import Derived.Deep.DeepCutAuto
import Derived.Deep.CutBlock
namespace Go.Proofs.YtanondjaooocgaaDoor
open Go.RowKit Go.Lib

theorem info_bop : (Tryd.prog.info? 46).map (fun i => (i.zero, i.size, i.bytes)) = some (some (.agg #[.int .i64 0, .int .i64 0, .string ByteArray.empty]), 3, 32) := by kernel_rfl
/-- a text that is still to be told -/
def flush (out : List DOp) (text : Bytes) : List DOp := if text = [] then out else out ++ [⟨0, 0, text⟩]
def LastRun (out : List DOp) : Prop := out = [] ∨ ∃ o, out.getLast? = some o ∧ o.many ≠ 0
theorem flush_nil (out : List DOp) : flush out [] = out := rfl
theorem flush_some (out : List DOp) {text : Bytes} (h : text ≠ []) : flush out text = out ++ [⟨0, 0, text⟩] := if_neg h
theorem flush_add {out : List DOp} (text p : Bytes) (hp : p ≠ []) (h : LastRun out) : addText (flush out text) p = flush out (text ++ p) := by
  by_cases ht : text = []
  · subst ht
    rw [flush_nil, List.nil_append, flush_some out hp]
    exact addText_new h
  · rw [flush_some out ht, flush_some out (by simp [ht]), addText_more (o := ⟨0, 0, text⟩) (by simp) rfl]
    simp
theorem lastRun_run (out : List DOp) (k n : Nat) (hn : 1 ≤ n) : LastRun (out ++ [⟨k, n, []⟩]) := .inr ⟨⟨k, n, []⟩, by simp, by simp; omega⟩
theorem ownsRow_drewN {w : World} {base size n : Nat} {e : TypeId} {v : Value} {xs : List Value} (h : w.ownsRow base e size v n xs) (q : Nat) : (w.drewN q).ownsRow base e size v n xs := h

set_option maxRecDepth 100000 in
set_option maxHeartbeats 4000000 in
theorem MakeOf_any (old s : ByteArray) (ho : old.size ≤ 2 ^ 30) (hs : s.size ≤ 2 ^ 30) (w : World) :
    Calls Tryd.prog 15 #[.string old, .string s] w fun e W' => ∃ v, e = .returned v ∧
      W'.ownsRow w.heap.size 46 3 v (mkD (pieces old.data.toList) (pieces s.data.toList).length (pieces s.data.toList) []).length (opRow (mkD (pieces old.data.toList) (pieces s.data.toList).length (pieces s.data.toList) [])) ∧ Below w.heap.size w W' := by
  obtain ⟨i0, hi, hz0, hz1, hz2⟩ := info_parts info_bop
  have hl1 := pieces_length_le old.data.toList
  have hl2 := pieces_length_le s.data.toList
  rw [← size_toList] at hl1 hl2
  have hne := pieces_ne s.data.toList
  generalize hH : pieces old.data.toList = hv at *
  generalize hW : pieces s.data.toList = want at *
  have HH := Lib.hid hH
  have HW := Lib.hid hW
  have HNE := Lib.hid hne
  have hfl := pieces_flatten s.data.toList
  rw [hW] at hfl
  have htot := tot_le want
  rw [hfl, ← size_toList] at htot
  have HTO := Lib.hid htot
  clear hH hW hfl htot hne
  go_enter Tryd.func15, Tryd.ntmps15
  go_wp2_with fail
  refine (PiecesOf_any old (by omega) _).mono ?_
  rintro e W1 ⟨v1, rfl, hr1, hb1⟩
  go_wp2_with fail
  refine (PiecesOf_any s (by omega) _).mono ?_
  rintro e W2 ⟨v2, rfl, hr2, hb2⟩
  rw [HH.out] at hr1
  rw [HW.out] at hr2
  have hR1 := (Rd.own hr1).below hb2
  have hR2 := Rd.own hr2
  have hbw := hb1.trans (hb2.mono hb1.size)
  have HBW := Lib.hid hbw
  have hlw : w.heap.size ≤ W2.heap.size := hbw.size
  have hR1 := hR1.more hb2.size
  clear hr1 hr2 hb1 hb2 hbw
  obtain ⟨A1, c1, rfl, _, hd1⟩ := hR1
  obtain ⟨A2, c2, rfl, _, hd2⟩ := hR2
  rw [List.length_map, List.length_map]
  have HD1 := Lib.hid hd1
  have HD2 := Lib.hid hd2
  clear hd1 hd2
  go_wp2
  go_loopg [7, 8, 9] want.length (fun gh v7 vt vi wr => ∃ (i : Nat) (out : List DOp) (text : Bytes), vi = .int .i64 i ∧ i ≤ want.length ∧ gh = want.length - i ∧ vt = .string (bs text) ∧ wr.ownsRow W2.heap.size 46 3 v7 out.length (opRow out) ∧ out.length ≤ i * 2 ∧ text.length ≤ tot want i ∧ Hid (LastRun out) ∧ Hid (MkRel hv want i (flush out text)) ∧ Below W2.heap.size W2 wr)
  case atStart => exact ⟨0, [], [], rfl, Nat.zero_le _, rfl, rfl, World.ownsRow_nil _ _ _ _, Nat.zero_le _, Nat.zero_le _, .inl rfl, ⟨want.length, by simp, by simp [flush]⟩, Below.refl _ _⟩
  case round =>
    obtain ⟨i, out, text, rfl, hik, rfl, rfl, hrow, hol, htx, hlr, hm, hB⟩ := hrel
    by_cases hlt : i < want.length
    · obtain ⟨g2, o2, rfl, hg2, hc2⟩ := HD2.out (map_ne hlt)
      have cw : wr.cell? ⟨g2, o2 + i, none⟩ = some (.string (bs want[i])) := (hB.cell (p := ⟨g2, o2 + i, none⟩) hg2).trans (hc2 i _ (by simp [hlt]))
      have HC2 := Lib.hid hc2
      clear hc2
      go_upto_block 2 with fail
      go_cut [10] (fun s10 wx => ∃ k : Nat, s10 = .int .i64 k ∧ k ≤ hv.length ∧ Hid (∀ j (hj : j < hv.length), j < k → want[i] ≠ hv[j]) ∧ Hid (∀ h : k < hv.length, want[i] = hv[k]) ∧ ∃ q, wx = wr.drewN q)
      case first =>
        go_wp2_with fail
        go_loopg [10] hv.length (fun gg s10 wx => ∃ k : Nat, s10 = .int .i64 k ∧ k ≤ hv.length ∧ gg = hv.length - k ∧ Hid (∀ j (hj : j < hv.length), j < k → want[i] ≠ hv[j]) ∧ ∃ q, wx = wr.drewN q)
        case atStart => exact ⟨0, rfl, Nat.zero_le _, rfl, fun j _ h => absurd h (Nat.not_lt_zero _), 0, rfl⟩
        case round =>
          obtain ⟨k, rfl, hk, rfl, hn, q, rfl⟩ := hrel
          by_cases hlk : k < hv.length
          · obtain ⟨g1, o1, rfl, hg1, hc1⟩ := HD1.out (map_ne hlk)
            have cv : wr.cell? ⟨g1, o1 + k, none⟩ = some (.string (bs hv[k])) := (hB.cell (p := ⟨g1, o1 + k, none⟩) hg1).trans (hc1 k _ (by simp [hlk]))
            clear hc1
            have b1 : (k : Int) < (hv.length : Int) := by omega
            have b2 : (i : Int) < (want.length : Int) := by omega
            by_cases he : want[i] = hv[k]
            · have q3 : ((bs hv[k]).toList == (bs want[i]).toList) = true := by rw [bs_beq]; simpa using he.symm
              have HE := Lib.hid he
              clear he
              go_wp2
              go_quiet (fail)
              go_wp2_with fail
              go_meet
              exact ⟨k, rfl, hk, hn, fun _ => HE.out, _, by rw [World.drewN_drewN]⟩
            · have q3 : ((bs hv[k]).toList == (bs want[i]).toList) = false := by rw [bs_beq]; simpa using fun h => he h.symm
              have HN : Hid (∀ j (hj : j < hv.length), j < k + 1 → want[i] ≠ hv[j]) := fun j hj h => by
                rcases Nat.lt_or_ge j k with h1 | h1
                · exact hn.out j hj h1
                · obtain rfl : j = k := by omega
                  exact he
              clear he
              go_wp2
              go_quiet (fail)
              go_wp2
              go_roundg (hv.length - (k + 1))
              case measure => omega
              case rel => exact ⟨k + 1, by go_num, hlk, rfl, HN, _, rfl⟩
          · obtain rfl : k = hv.length := by omega
            have b1 : decide ((hv.length : Int) < (hv.length : Int)) = false := by simp
            go_wp2
            go_quiet (fail)
            go_wp2_with fail
            go_meet
            exact ⟨hv.length, rfl, hk, hn, fun h => absurd h (Nat.lt_irrefl _), _, by rw [World.drewN_drewN]⟩
      case rest =>
        obtain ⟨k, rfl, hk, hno, heq, q, rfl⟩ := hcut
        have hrow := ownsRow_drewN hrow q
        have hB := below_drewN hB q
        have cw : (wr.drewN q).cell? ⟨g2, o2 + i, none⟩ = some (.string (bs want[i])) := cw
        generalize wr.drewN q = wq at *
        have ht1 := HTO.out i
        have ht2 := HTO.out (i + 1)
        have hts := tot_succ want i hlt
        obtain ⟨A7, c7, rfl, _, _⟩ := own_form hrow
        by_cases hlk : k < hv.length
        · have hf : fi hv want[i] = some k := fi_some hlk (heq.out hlk) (fun j hj => hno.out j (by omega) hj)
          have HM := Lib.hid (fun (n : Nat) hn => mkrel_run (n := n) hm.out hlt hf hn)
          have qk : ((k : Int) == (hv.length : Int)) = false := by rw [beq_eq_false_iff_ne]; omega
          clear hf
          go_upto_if 50 with fail
          go_cut [7, 8] (fun s7 s8 wx => s8 = .string ByteArray.empty ∧ wx.ownsRow W2.heap.size 46 3 s7 (flush out text).length (opRow (flush out text)) ∧ Below W2.heap.size W2 wx)
          case first =>
            by_cases htz : text = []
            · subst htz
              have t1 := bs_nil_empty
              have t2 : (!(bs []).toList.isEmpty) = false := by rw [bs_nil_empty]; rfl
              rw [t2]
              go_wp2_with fail
              go_meet
              exact ⟨rfl, hrow, hB⟩
            · have t1 := bs_ne_empty htz
              have t2 : (!(bs text).toList.isEmpty) = true := by rw [t1]; rfl
              have HT := Lib.hid (flush_some out htz)
              clear htz
              rw [t2]
              go_wp2_with (at_builtin; refine wpList_append_own _ rfl _ _ 42 rfl W2.heap.size 46 i0 (.agg #[.int .i64 0, .int .i64 0, .string ByteArray.empty]) 3 32 Tryd.underlying42 hi hz0 hz1 hz2 rfl (by decide) _ _ _ rfl (hrow.alloc _) ⟨wq.heap.size, 0, none⟩ 1 1 [.int .i64 0, .int .i64 0, .string (bs text)] rfl rfl (cells_new _ _ _ _ _) (by simp [Value.oneCell']) (by unfold maxLen; omega) (by omega) (by have := hB.size; simp; omega) ?_; intro v' w1 hown' hgrow _)
              go_meet
              exact ⟨rfl, by rw [HT.out, opRow_append, List.length_append]; exact hown', below_append hB hB.size hrow hgrow⟩
          case rest =>
            clear hrow hB cw
            obtain ⟨rfl, hrow, hB⟩ := hcut
            obtain ⟨A8, c8, rfl, _, _⟩ := own_form hrow
            obtain ⟨g1, o1, rfl, hg1, hc1⟩ := HD1.out (map_ne hlk)
            have HC1 := Lib.hid hc1
            have HRW := Lib.hid hrow
            have HFL : (flush out text).length ≤ out.length + 1 := by unfold flush; split <;> simp
            clear hc1 hrow
            go_upto_block 4 with fail
            go_cut [11] (fun s11 wx => ∃ n : Nat, s11 = .int .i64 n ∧ 1 ≤ n ∧ i + n ≤ want.length ∧ Hid (n = common (hv.drop (k + 1)) (want.drop (i + 1)) + 1) ∧ ∃ q, wx = wc.drewN q)
            case first =>
              go_wp2_with fail
              go_loopg [11] want.length (fun gg s11 wx => ∃ n : Nat, s11 = .int .i64 n ∧ i + n ≤ want.length ∧ k + n ≤ hv.length ∧ gg = want.length - n ∧ Hid (common (hv.drop (k + n)) (want.drop (i + n)) + n = common (hv.drop (k + 1)) (want.drop (i + 1)) + 1) ∧ ∃ q, wx = wc.drewN q)
              case atStart => exact ⟨0, rfl, by omega, by omega, rfl, by rw [Nat.add_zero, Nat.add_zero, Nat.add_zero, common_step hlk hlt (heq.out hlk).symm]; exact Lib.hid rfl, 0, rfl⟩
              case round =>
                obtain ⟨n, rfl, hin, hkn, rfl, hcm, q, rfl⟩ := hrel
                have s1 : IntKind.i64.wrap ((i : Int) + (n : Int)) = (i : Int) + n := IntWalk.i64_in _ (by omega)
                have s2 : IntKind.i64.wrap ((k : Int) + (n : Int)) = (k : Int) + n := IntWalk.i64_in _ (by omega)
                have s3 : (0 : Int) ≤ (i : Int) + n := by omega
                have s4 : (0 : Int) ≤ (k : Int) + n := by omega
                have s5 : ((i : Int) + (n : Int)).toNat = i + n := by omega
                have s6 : ((k : Int) + (n : Int)).toNat = k + n := by omega
                by_cases h1 : i + n < want.length
                · have q1 : (i : Int) + n < (want.length : Int) := by omega
                  by_cases h2 : k + n < hv.length
                  · have q2 : (k : Int) + n < (hv.length : Int) := by omega
                    have cw2 : wc.cell? ⟨g2, o2 + (i + n), none⟩ = some (.string (bs want[i + n])) := (hB.cell (p := ⟨g2, o2 + (i + n), none⟩) hg2).trans (HC2.out _ _ (by simp [h1]))
                    have cw1 : wc.cell? ⟨g1, o1 + (k + n), none⟩ = some (.string (bs hv[k + n])) := (hB.cell (p := ⟨g1, o1 + (k + n), none⟩) hg1).trans (HC1.out _ _ (by simp [h2]))
                    by_cases he : hv[k + n] = want[i + n]
                    · have q3 : ((bs want[i + n]).toList == (bs hv[k + n]).toList) = true := by rw [bs_beq]; simpa using he.symm
                      have HN : Hid (common (hv.drop (k + (n + 1))) (want.drop (i + (n + 1))) + (n + 1) = common (hv.drop (k + 1)) (want.drop (i + 1)) + 1) := by
                        have h := hcm.out
                        rw [common_step h2 h1 he] at h
                        exact Lib.hid (by rw [← h, ← Nat.add_assoc k, ← Nat.add_assoc i]; omega)
                      clear he
                      go_wp2
                      go_quiet (fail)
                      go_wp2
                      go_roundg (want.length - (n + 1))
                      case measure => omega
                      case rel => exact ⟨n + 1, by go_num, by omega, by omega, rfl, HN, _, rfl⟩
                    · have q3 : ((bs want[i + n]).toList == (bs hv[k + n]).toList) = false := by rw [bs_beq]; simpa using fun h => he h.symm
                      have HN : Hid (n = common (hv.drop (k + 1)) (want.drop (i + 1)) + 1) := by
                        have h := hcm.out
                        rw [common_stop h2 h1 he] at h
                        exact Lib.hid (by omega)
                      clear he
                      go_wp2
                      go_quiet (fail)
                      go_wp2_with fail
                      go_meet
                      exact ⟨n, rfl, by have := HN.out; omega, hin, HN, _, by rw [World.drewN_drewN]⟩
                  · have q2 : decide ((k : Int) + n < (hv.length : Int)) = false := by rw [decide_eq_false_iff_not]; omega
                    have HN : Hid (n = common (hv.drop (k + 1)) (want.drop (i + 1)) + 1) := by
                      have h := hcm.out
                      rw [common_out (.inl (by omega))] at h
                      exact Lib.hid (by omega)
                    clear h2
                    go_wp2_with fail
                    go_meet
                    exact ⟨n, rfl, by have := HN.out; omega, hin, HN, _, rfl⟩
                · have q1 : decide ((i : Int) + n < (want.length : Int)) = false := by rw [decide_eq_false_iff_not]; omega
                  have HN : Hid (n = common (hv.drop (k + 1)) (want.drop (i + 1)) + 1) := by
                    have h := hcm.out
                    rw [common_out (.inr (by omega))] at h
                    exact Lib.hid (by omega)
                  clear h1
                  go_wp2_with fail
                  go_meet
                  exact ⟨n, rfl, by have := HN.out; omega, hin, HN, _, rfl⟩
            case rest =>
              obtain ⟨n, rfl, hn1, hin, hcn, q, rfl⟩ := hcut
              have hrow := HRW.out
              go_wp2_with (at_builtin; refine wpList_append_own _ rfl _ _ 42 rfl W2.heap.size 46 i0 (.agg #[.int .i64 0, .int .i64 0, .string ByteArray.empty]) 3 32 Tryd.underlying42 hi hz0 hz1 hz2 rfl (by decide) _ _ _ rfl (hrow.alloc _) ⟨wc.heap.size, 0, none⟩ 1 1 [.int .i64 k, .int .i64 n, .string ByteArray.empty] rfl rfl (cells_new wc _ _ _ _) (by simp [Value.oneCell']) (by unfold maxLen; omega) (by omega) (by have := hB.size; simp; omega) ?_; intro v' w1 hown' hgrow _)
              go_roundg (want.length - (i + n))
              case measure => omega
              case rel => exact ⟨i + n, flush out text ++ [(⟨(k : Int), (n : Int), []⟩ : DOp)], [], by go_num, hin, rfl, rfl, by rw [opRow_append, List.length_append]; exact hown', by simp; omega, Nat.zero_le _, Lib.hid (lastRun_run _ k n hn1), Lib.hid (HM.out n hcn.out), below_append hB hB.size hrow ⟨hgrow.os, hgrow.tape, hgrow.output, hgrow.size, hgrow.block⟩⟩
        · obtain rfl : k = hv.length := by omega
          have hf : fi hv want[i] = none := fi_none (fun j hj => hno.out j hj hj)
          have HM := Lib.hid (mkrel_text hm.out hlt hf)
          have HF := Lib.hid (flush_add text want[i] (HNE.out _ (List.getElem_mem hlt)) hlr.out)
          have hsz : (bs text).size + (bs want[i]).size ≤ 2 ^ 31 := by rw [bs_size, bs_size]; omega
          clear hf
          go_wp2
          go_roundg (want.length - (i + 1))
          case measure => omega
          case rel => exact ⟨i + 1, out, text ++ want[i], by go_num, hlt, rfl, by rw [bs_append], hrow, by omega, by rw [List.length_append]; omega, hlr, by rw [← HF.out]; exact HM, hB⟩
    · obtain rfl : i = want.length := by omega
      have HFN := Lib.hid (mkrel_end hm.out)
      have ht1 := HTO.out want.length
      obtain ⟨A7, c7, rfl, _, _⟩ := own_form hrow
      by_cases htz : text = []
      · subst htz
        have t1 := bs_nil_empty
        have t2 : (!(bs []).toList.isEmpty) = false := by rw [bs_nil_empty]; rfl
        go_wp2
        go_ret
        refine ⟨_, rfl, ?_, HBW.out.trans (hB.mono HBW.out.size)⟩
        rw [← HFN.out]
        exact hrow.mono HBW.out.size
      · have t1 := bs_ne_empty htz
        have t2 : (!(bs text).toList.isEmpty) = true := by rw [t1]; rfl
        have HT := Lib.hid (flush_some out htz)
        clear htz
        go_wp2_with (at_builtin; refine wpList_append_own _ rfl _ _ 42 rfl W2.heap.size 46 i0 (.agg #[.int .i64 0, .int .i64 0, .string ByteArray.empty]) 3 32 Tryd.underlying42 hi hz0 hz1 hz2 rfl (by decide) _ _ _ rfl (hrow.alloc _) ⟨wr.heap.size, 0, none⟩ 1 1 [.int .i64 0, .int .i64 0, .string (bs text)] rfl rfl (cells_new _ _ _ _ _) (by simp [Value.oneCell']) (by unfold maxLen; omega) (by omega) (by have := hB.size; simp; omega) ?_; intro v' w1 hown' hgrow _)
        go_ret
        refine ⟨_, rfl, ?_, HBW.out.trans ((below_append hB hB.size hrow hgrow).mono HBW.out.size)⟩
        rw [← HFN.out, HT.out, opRow_append, List.length_append]
        exact hown'.mono HBW.out.size
end Go.Proofs.YtanondjaooocgaaDoor

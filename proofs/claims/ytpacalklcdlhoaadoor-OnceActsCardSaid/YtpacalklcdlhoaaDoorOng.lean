/- Walks of onced, longCalls. Condition: the sentinels lie as named. -/
import Derived.Test.YtpacalklcdlhoaaDoorOnf
namespace Go.Proofs.YtpacalklcdlhoaaDoor
open Go.RowKit Go.Lib Go.Maps

theorem bs_listO (l : Bytes) : (bs l).toList = l := by rw [ByteArray.toList_eq, bs_toList]
set_option maxRecDepth 100000 in
set_option maxHeartbeats 1000000 in
theorem onced_any (a : Nat → Addr) (w : World) (he : Sents a w) :
    Calls Tryd.prog 36 #[] w fun e w' => e = .returned (.bool true) ∧ Below w.heap.size w w' := by
  have HE := Lib.hid he
  clear he
  go_enter Tryd.func36, Tryd.ntmps36
  go_wp2_with fail
  refine (ONew_any w).mono ?_
  rintro e w1 ⟨b, mb, rfl, hT, hb, hmb, hbl⟩
  have HI1 : Hid (OIn a w b mb 0 (.map []) w1) := Lib.hid ⟨hT, HE.out, hbl, hb, hmb, Nat.zero_le _⟩
  have hval0 : DataW.atKey (.map [] : DataW Unit) (.string [97]) (ansD 0 []) = ansD 0 [] := rfl
  have NOTE := Lib.hid (OIn.note (a := a) (W := w) (b := b) (mb := mb) (cnt := 0) (by unfold maxLen; omega) (t := ⟨#[97]⟩) (x := ⟨#[104, 105]⟩) (by unfold maxLen; decide) (n := 1) (an := 0) (by decide) (s := []) (V := .nilIface) hval0 (k := 0) (note_ok (by decide) (by unfold wrap64; rfl) (by decide)) (note_none (note_ok (by decide) (by unfold wrap64; rfl) (by decide))) (by decide) rfl)
  have ASK := Lib.hid (OIn.ask (a := a) (W := w) (b := b) (mb := mb) (cnt := 1) (D := (DataW.map [] : DataW Unit).put (.string [97]) (ansD 1 [104, 105])) (t := ⟨#[97]⟩) (by unfold maxLen; decide) (n := 1) (an := 1) (s := [104, 105]) rfl (ask_again (by decide) (by decide) rfl))
  clear hT hb hmb hbl hval0
  go_wp2_with fail
  refine (NOTE.out w1 HI1.out).mono ?_
  rintro e w2 ⟨rfl, hi2, _⟩
  have HI2 := Lib.hid hi2
  clear hi2 NOTE
  go_wp2_with fail
  refine (ASK.out w2 HI2.out).mono ?_
  rintro e w3 ⟨rfl, hb3⟩
  have HB3 := Lib.hid (HI2.out.below hb3).bel
  have hbl : ((bs [104, 105]).toList == [104, 105]) = true := by rw [bs_listO]; rfl
  clear hb3 ASK
  generalize bs [104, 105] = Bv at *
  go_wp2
  go_ret
  exact ⟨rfl, HB3.out⟩
theorem any_take {l : List Cl} {k : Nat} (hk : k < l.length) (h : (l.take k).any longOne = false) (h1 : longOne l[k] = false) : (l.take (k + 1)).any longOne = false := by
  rw [List.take_succ_eq_append_getElem hk, List.any_append, h]; simp [h1]
theorem long_hit {l : List Cl} {k : Nat} (hk : k < l.length) (h1 : longOne l[k] = true) : longB l = true := by
  unfold longB
  rw [List.any_eq_true.2 ⟨l[k], List.getElem_mem hk, h1⟩, Bool.or_true]
set_option maxRecDepth 100000 in
set_option maxHeartbeats 1000000 in
theorem longCalls_any (v : Value) (l : List Cl) (B : Nat) (w : World) (hv : ClRd w B v l) (hl : l.length ≤ maxLen) (htx : ∀ x ∈ l, x.client.length ≤ maxLen ∧ x.s.length ≤ maxLen) :
    Calls Tryd.prog 37 #[v] w fun e w' => e = .returned (.bool (longB l)) ∧ w = w' := by
  obtain ⟨A, c, rfl, _, hc⟩ := hv
  have HC := Lib.hid hc
  have HTX := Lib.hid htx
  have hl63 : l.length ≤ 9223372036854775807 := by unfold maxLen at hl; omega
  clear hc htx hl
  by_cases h80 : 80 < l.length
  · have h80i : (80 : Int) < (l.length : Int) := by omega
    have HJ : Hid (longB l = true) := Lib.hid (by unfold longB; rw [decide_eq_true h80]; rfl)
    go_enter Tryd.func37, Tryd.ntmps37
    go_wp2
    go_ret
    exact ⟨by rw [HJ.out]; rfl, rfl⟩
  · have h80i : ¬ (80 : Int) < (l.length : Int) := by omega
    go_enter Tryd.func37, Tryd.ntmps37
    go_wp2
    go_loopw [3] (fun vi wr => ∃ k : Nat, vi = .int .i64 k ∧ k ≤ l.length ∧ w = wr ∧ Hid ((l.take k).any longOne = false)) (fun vi _ => l.length - (intOf vi).toNat)
    case atStart => exact ⟨0, rfl, Nat.zero_le _, rfl, rfl⟩
    case round =>
      obtain ⟨k, rfl, hk, rfl, hno⟩ := hrel
      by_cases hkl : k < l.length
      · obtain ⟨g, o, rfl, _, hcells⟩ := HC.out (by omega)
        obtain ⟨_, c1, c2, _⟩ := hcells k hkl
        have b1 : (0 : Int) ≤ (k : Int) := by omega
        have b2 : (k : Int) < (l.length : Int) := by omega
        obtain ⟨t1, t2⟩ := HTX.out l[k] (List.getElem_mem hkl)
        have s1 : (bs l[k].client).size ≤ 9223372036854775807 := by rw [bs_size]; unfold maxLen at t1; omega
        have s2 : (bs l[k].s).size ≤ 9223372036854775807 := by rw [bs_size]; unfold maxLen at t2; omega
        by_cases h1 : 30 < l[k].client.length
        · have h1i : (30 : Int) < ((bs l[k].client).size : Int) := by rw [bs_size]; omega
          have HJ : Hid (longB l = true) := Lib.hid (long_hit hkl (by unfold longOne; rw [decide_eq_true h1]; rfl))
          clear hcells h1 hno
          go_wp2
          go_ret
          exact ⟨by rw [HJ.out]; rfl, rfl⟩
        · have h1i : ¬ (30 : Int) < ((bs l[k].client).size : Int) := by rw [bs_size]; omega
          by_cases h2 : 100 < l[k].s.length
          · have h2i : (100 : Int) < ((bs l[k].s).size : Int) := by rw [bs_size]; omega
            have HJ : Hid (longB l = true) := Lib.hid (long_hit hkl (by unfold longOne; rw [decide_eq_true h2, Bool.or_true]))
            clear hcells h1 h2 hno
            go_wp2
            go_ret
            exact ⟨by rw [HJ.out]; rfl, rfl⟩
          · have h2i : ¬ (100 : Int) < ((bs l[k].s).size : Int) := by rw [bs_size]; omega
            have HN : Hid ((l.take (k + 1)).any longOne = false) := Lib.hid (any_take hkl hno.out (by unfold longOne; rw [decide_eq_false h1, decide_eq_false h2]; rfl))
            clear hcells h1 h2 hno
            go_wp2
            go_roundw
            case rel => exact ⟨k + 1, by go_num, hkl, trivial, HN⟩
            case measure => simp [intOf]; omega
      · obtain rfl : k = l.length := by omega
        have HJ : Hid (longB l = false) := Lib.hid (by
          have h := hno.out
          rw [List.take_of_length_le (Nat.le_refl _)] at h
          unfold longB; rw [h, decide_eq_false h80]; rfl)
        go_wp2
        go_ret
        exact ⟨by rw [HJ.out]; rfl, rfl⟩
end Go.Proofs.YtpacalklcdlhoaaDoor

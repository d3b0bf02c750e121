/- Walk of the law BinFills. Condition: the sentinels and the library's tables lie as the text lays them (FilW). -/
import Derived.Test.YtpanoplcamdnkaaGreatDoorBfG
import Derived.Test.YtpanoplcamdnkaaGreatDoorBaA
import Derived.Test.YtpanoplcamdnkaaGreatDoorBin2
import Derived.Test.YtpanoplcamdnkaaGreatDoorErrV
namespace Go.Proofs.YtpanoplcamdnkaaGreatDoor
open Go.RowKit Go.Lib

structure FilW (a : Nat → Addr) (w : World) : Prop where
  s : Sents a w
  t : Tabs w
  m : MaxL w
  p : Perrs w
theorem FilW.below {a : Nat → Addr} {w w' : World} (h : FilW a w) (hb : Below w.heap.size w w') : FilW a w' := ⟨h.s.below hb, h.t.below hb, h.m.below hb, h.p.below hb⟩
theorem faulted1_same (a : Nat → Addr) (v : Value) (F : Int × Int) (w : World) (h : Sents a w) (he : EV a v F.1 F.2 w) :
    Calls Tryz.prog 43 #[v, fltV F] w fun e w' => e = .returned (.bool true) ∧ Below w.heap.size w w' :=
  (faulted1_any a v F.1 F.2 F.1 F.2 w h (he.toErrV h)).mono fun e w' ⟨h1, h2⟩ => ⟨by rw [h1]; simp [faultedB], h2⟩
theorem longZ_pos {L : HldL} (h : longHB L = true) : longZ L = 1 := by unfold longZ; rw [if_pos h]
theorem longZ_zero {L : HldL} (h : longHB L = false) : longZ L = 0 := by unfold longZ; rw [if_neg (by rw [h]; decide)]
theorem longH_len {L : HldL} (h : longHB L = false) : L.length ≤ 251 ∧ ∀ x ∈ L, x.text.length ≤ 100 := by
  unfold longHB at h
  rw [Bool.or_eq_false_iff, Bool.and_eq_false_iff, decide_eq_false_iff_not, decide_eq_false_iff_not] at h
  refine ⟨by omega, fun x hx => ?_⟩
  have := List.any_eq_false.1 h.2 x hx
  simp at this
  omega
def wasL : Bytes := [119, 97, 115]
def was1 : HldL := [⟨idOf wasL, 1, wasL⟩]
theorem put_was : putB wasL [] = (was1, idOf wasL, true, 0) := by
  unfold putB
  rw [if_neg (by decide)]; rfl
theorem ok_was : BinOk 1 was1 := by have := binOk_put (n := 0) (Int.le_refl _) (BinOk.nil 0) wasL; rw [put_was] at this; exact this
theorem size_was : sizeB was1 = 3 := by rfl
theorem readF_len : ∀ (n : Nat) (s : Bytes) (acc : HldL), s.length ≤ n → (readF acc s).1.length ≤ acc.length + s.length
  | n, s, acc, hn => by
    by_cases h0 : s = []
    · subst h0; rw [readF_nil]; simp
    · cases ho : oneF s with
      | none => rw [readF_none h0 ho]; simp
      | some q =>
        obtain ⟨x, r⟩ := q
        have hsh := oneF_shorter ho
        by_cases hm : markB acc.getLast? x = 0
        · rw [readF_step h0 ho hm]
          match n, hn with
          | 0, hn => exact absurd (List.eq_nil_of_length_eq_zero (by omega)) h0
          | n + 1, hn =>
            have := readF_len n r (acc ++ [x]) (by omega)
            rw [List.length_append] at this
            simp only [List.length_cons, List.length_nil] at this
            omega
        · rw [readF_mark h0 ho hm]; simp
theorem fillFrom_code (l : HldL) : ∀ (q : HldL) (i : Nat), (fillFrom l i q).1 = 0 ∨ (fillFrom l i q).1 > 0
  | [], _ => .inl rfl
  | h :: r, i => by
    unfold fillFrom
    split
    · exact fillFrom_code l r (i + 1)
    · next hne =>
      show fillAt l i h = 0 ∨ fillAt l i h > 0
      unfold fillAt markAt at hne ⊢
      split
      · have := markB_cases (if i = 0 then none else l[i - 1]?) h
        omega
      · exact .inr (by decide)
theorem fillF_code (l : HldL) : (fillF l).1 = 0 ∨ (fillF l).1 > 0 := by
  unfold fillF
  split
  · exact .inr (by show (7 : Int) > 0; decide)
  · exact fillFrom_code l l 0
theorem readHF_len (s : Bytes) : (readHF s).1.length ≤ s.length := by
  unfold readHF
  split
  · simp
  · have := readF_len s.length s [] (Nat.le_refl _)
    simpa using this

set_option maxRecDepth 100000 in
set_option maxHeartbeats 1000000 in
theorem BinFills_long (a : Nat → Addr) (v : Value) (L : HldL) (hl : L.length ≤ maxLen) (hz : ∀ x ∈ L, x.text.length ≤ maxLen) (s : ByteArray) (hlong : longHB L = true) (w : World) (hv : RdL w w.heap.size v L) (h : FilW a w) :
    Calls Tryz.prog 6 #[v, .string s] w fun e w' => e = .returned (.bool true) ∧ Below w.heap.size w w' := by
  have HBN := Lib.hid (binned_any a w (h.s.someS _ (by decide)))
  have HLA := Lib.hid (fun w1 (hb : Below w.heap.size w w1) => LongHelds_any v L hl hz _ w1 (hv.below hb))
  have HLG := Lib.hid (longZ_pos hlong)
  clear h hv hlong
  go_enter Tryz.func6, Tryz.ntmps6
  go_wp2_with fail
  refine HBN.out.mono ?_
  rintro e w1 ⟨rfl, hb1⟩
  go_wp2_with fail
  refine (HLA.out w1 hb1).mono ?_
  rintro e w2 ⟨rfl, hw⟩
  rw [HLG.out]
  have HB1 : Hid (Below w.heap.size w w2) := Lib.hid (by rw [← hw]; exact hb1)
  clear hw
  go_wp2
  go_ret
  exact ⟨rfl, HB1.out⟩
set_option maxRecDepth 100000 in
set_option maxHeartbeats 1000000 in
theorem BinFills_longS (a : Nat → Addr) (v : Value) (L : HldL) (hl : L.length ≤ maxLen) (hz : ∀ x ∈ L, x.text.length ≤ maxLen) (s : ByteArray) (hlong : longHB L = false) (hs : 2000 < s.size ∧ s.size ≠ 40001) (w : World) (hv : RdL w w.heap.size v L) (h : FilW a w) :
    Calls Tryz.prog 6 #[v, .string s] w fun e w' => e = .returned (.bool true) ∧ Below w.heap.size w w' := by
  have HBN := Lib.hid (binned_any a w (h.s.someS _ (by decide)))
  have HLA := Lib.hid (fun w1 (hb : Below w.heap.size w w1) => LongHelds_any v L hl hz _ w1 (hv.below hb))
  have HLG := Lib.hid (longZ_zero hlong)
  have h1i : (s.size : Int) > 2000 := by omega
  have h2i : ((s.size : Int) != 40001) = true := by rw [bne_iff_ne]; omega
  clear h hv hlong hs
  go_enter Tryz.func6, Tryz.ntmps6
  go_wp2_with fail
  refine HBN.out.mono ?_
  rintro e w1 ⟨rfl, hb1⟩
  go_wp2_with fail
  refine (HLA.out w1 hb1).mono ?_
  rintro e w2 ⟨rfl, hw⟩
  rw [HLG.out]
  have HB1 : Hid (Below w.heap.size w w2) := Lib.hid (by rw [← hw]; exact hb1)
  clear hw
  go_wp2
  go_ret
  exact ⟨rfl, HB1.out⟩
set_option maxRecDepth 100000 in
set_option maxHeartbeats 8000000 in
theorem BinFills_main (a : Nat → Addr) (v : Value) (L : HldL) (hz : ∀ x ∈ L, HldW x) (sb : Bytes) (hlong : longHB L = false) (hs : ¬ (2000 < sb.length ∧ sb.length ≠ 40001)) (w : World) (hv : RdL w w.heap.size v L) (h : FilW a w) :
    Calls Tryz.prog 6 #[v, .string (bs sb)] w fun e w' => e = .returned (.bool true) ∧ Below w.heap.size w w' := by
  obtain ⟨hl251, hx100⟩ := longH_len hlong
  have HBN := Lib.hid (binned_any a w (h.s.someS _ (by decide)))
  have HLA := Lib.hid (fun w1 (hb : Below w.heap.size w w1) => LongHelds_any v L (by unfold maxLen; omega) (fun x hx => by have := hx100 x hx; unfold maxLen; omega) _ w1 (hv.below hb))
  have HLG := Lib.hid (longZ_zero hlong)
  have H := Lib.hid h
  have HV := Lib.hid hv
  have HZ := Lib.hid hz
  have HX100 := Lib.hid hx100
  have hsz : (bs sb).size = sb.length := bs_size sb
  have hs40 : sb.length ≤ 40001 := by omega
  obtain ⟨A, c, rfl, hc, hx⟩ := hv.form
  have HX := Lib.hid hx
  clear h hlong hx hv hz hx100
  by_cases h2 : 2000 < sb.length
  · have h1i : (sb.length : Int) > 2000 := by omega
    have h2i : ((sb.length : Int) != 40001) = false := by rw [bne_eq_false_iff_eq]; omega
    clear h2 hs
    go_enter Tryz.func6, Tryz.ntmps6
    go_wp2_with fail
    refine HBN.out.mono ?_
    rintro e w1 ⟨rfl, hb1⟩
    go_wp2_with fail
    refine (HLA.out w1 hb1).mono ?_
    rintro e w2 ⟨rfl, hw⟩
    rw [HLG.out]
    have HB1 : Hid (Below w.heap.size w w2) := Lib.hid (by rw [← hw]; exact hb1)
    clear hw
    go_wp2
    go_loopg [6] L.length (fun gh v6 wr => ∃ k : Nat, v6 = .int .i64 k ∧ k ≤ L.length ∧ gh = L.length - k ∧ Hid (Below w.heap.size w wr))
    case atStart => exact ⟨0, rfl, Nat.zero_le _, rfl, HB1⟩
    case round =>
      obtain ⟨k, rfl, hk, hgm, HB⟩ := hrel
      by_cases hkl : k < L.length
      · obtain ⟨g, o, rfl, hg, hcells⟩ := HX.out (by omega)
        obtain ⟨_, x1, x2, _⟩ := hcells k hkl
        have b1 : (0 : Int) ≤ (k : Int) := by omega
        have b2 : (k : Int) < (L.length : Int) := by omega
        have y1 := (HB.out.cell (p := ⟨g, o + k * 4 + 1, none⟩) hg).trans x1
        have y2 := (HB.out.cell (p := ⟨g, o + k * 4 + 2, none⟩) hg).trans x2
        clear hcells x1 x2
        by_cases h3 : L[k].id.2 < 0
        · go_wp2
          go_roundg (L.length - (k + 1))
          case measure => omega
          case rel => exact ⟨k + 1, by go_num, hkl, rfl, HB⟩
        · by_cases h4 : L[k].uses < 0
          · go_wp2
            go_roundg (L.length - (k + 1))
            case measure => omega
            case rel => exact ⟨k + 1, by go_num, hkl, rfl, HB⟩
          · have hck : ¬ c = k := by omega
            have hrd0 : RdL w w.heap.size (.slice (some ⟨g, o + k * 4, none⟩) 1 (c - k)) [L[k]] := by
              have h0 := RdC.takeM (RdC.cutM HV.out k (by omega)) 1 (by omega)
              rw [if_neg hck, hldRow_drop, hldRow_take, show (L.drop k).take 1 = [L[k]] by rw [List.drop_eq_getElem_cons hkl]; rfl, Option.map_some, add_eqM] at h0
              exact h0
            have HW0 : Hid (IntKind.i64.wrap ((k : Int) + 1) = (k : Int) + 1) := Lib.hid (IntWalk.i64_in _ (by omega))
            have b3 : (k : Int) ≤ (k : Int) + 1 := by omega
            have b4 : (k : Int) + 1 ≤ (c : Int) := by omega
            have HONE : Hid (∀ x ∈ [L[k]], HldW x ∧ x.text.length ≤ 100000) := Lib.hid (fun x hx => by
              rw [List.mem_singleton] at hx
              subst hx
              have := HX100.out L[k] (List.getElem_mem hkl)
              exact ⟨HZ.out _ (List.getElem_mem hkl), by omega⟩)
            have HOWN : Hid (∀ w', Below wr.heap.size wr w' → Calls Tryz.prog 35 #[.slice (some ⟨g, o + k * 4, none⟩) 1 (c - k)] w' fun e w2 => ∃ v', e = .returned v' ∧ w2.ownsRow w'.heap.size 82 4 v' 1 (hldRow [L[k]]) ∧ Below w'.heap.size w' w2) := Lib.hid (fun w' hb => OwnHelds_any _ [L[k]] (by simp) _ w' (hrd0.below (HB.out.trans (hb.mono HB.out.size))))
            have HTXT : Hid (∀ w' v', Below wr.heap.size wr w' → RdL w' w'.heap.size v' [L[k]] → Calls Tryz.prog 27 #[v'] w' fun e w2 => e = .returned (.string (bs (textF [L[k]]))) ∧ Below w'.heap.size w' w2) := Lib.hid (fun w' v' hb hr => BnText_any v' [L[k]] HONE.out (by simp) _ w' hr (Nat.le_refl _) (H.out.t.below (HB.out.trans (hb.mono HB.out.size))))
            have HRTX : Hid (∀ w', Below wr.heap.size wr w' → Calls Tryz.prog 41 #[.slice (some ⟨g, o + k * 4, none⟩) 1 (c - k)] w' fun e w2 => e = .returned (.string (bs (textF [L[k]]))) ∧ Below w'.heap.size w' w2) := Lib.hid (fun w' hb => RHeldsText_any _ [L[k]] HONE.out (by simp) w.heap.size w' (hrd0.below (HB.out.trans (hb.mono HB.out.size))) (Nat.le_trans HB.out.size hb.size))
            clear hrd0
            go_wp2
            have hS0 : Below wr.heap.size wr wr.drew := (Below.refl _ _).drew
            refine region_S (fun w' => Below wr.heap.size wr w') 13 (by kernel_rfl) (by kernel_rfl) ?_
            refine take_S 0 rfl (by kernel_rfl) (by kernel_rfl) hS0 (fun w' hS => by go_simp; rfl) ?_
            refine take_S 1 rfl (by kernel_rfl) (by kernel_rfl) hS0 (fun w' hS => by go_simp; rfl) ?_
            refine take_S 2 rfl (by kernel_rfl) (by kernel_rfl) hS0 (fun w' hS => by go_simp; rfl) ?_
            refine take_S 3 (v := .int .i64 ((k : Int) + 1)) rfl (by kernel_rfl) (by kernel_rfl) hS0 (fun w' hS => by have V1 := HW0.out; go_simp) ?_
            refine take_S 4 rfl (by kernel_rfl) (by kernel_rfl) hS0 (fun w' hS => by go_simp; rfl) ?_
            refine take_S 7 rfl (by kernel_rfl) (by kernel_rfl) hS0 (fun w' hS => by go_simp; rfl) ?_
            refine take_S 8 rfl (by kernel_rfl) (by kernel_rfl) hS0 (fun w' hS => by go_simp; rfl) ?_
            refine take_S 9 rfl (by kernel_rfl) (by kernel_rfl) hS0 (fun w' hS => by go_simp; rfl) ?_
            refine take_S 10 (v := .int .i64 ((k : Int) + 1)) rfl (by kernel_rfl) (by kernel_rfl) hS0 (fun w' hS => by have V1 := HW0.out; go_simp) ?_
            refine take_S 11 rfl (by kernel_rfl) (by kernel_rfl) hS0 (fun w' hS => by go_simp; rfl) ?_
            refine carry_S 5 rfl (by kernel_rfl) (by decide) (by kernel_rfl) (fun K hK => ?_)
            go_simp
            refine (HOWN.out _ hS0).mono ?_
            rintro e w2 ⟨v2, rfl, ho2, hbw2⟩
            have hS1 : Below wr.heap.size wr w2 := hS0.trans (hbw2.mono hS0.size)
            refine hK _ _ hS1 ?_
            clear hK K
            try simp only [Act.put, List.getElem_toArray, List.getElem_cons_succ, List.getElem_cons_zero, List.setIfInBounds_toArray, List.set_cons_zero, List.set_cons_succ]
            refine carry_S 6 rfl (by kernel_rfl) (by decide) (by kernel_rfl) (fun K hK => ?_)
            go_simp
            refine (HTXT.out w2 v2 hS1 (RdL.own ho2)).mono ?_
            rintro e w3 ⟨rfl, hbw3⟩
            have hS2 : Below wr.heap.size wr w3 := hS1.trans (hbw3.mono hS1.size)
            refine hK _ _ hS2 ?_
            clear hK K
            try simp only [Act.put, List.getElem_toArray, List.getElem_cons_succ, List.getElem_cons_zero, List.setIfInBounds_toArray, List.set_cons_zero, List.set_cons_succ]
            refine carry_S 12 rfl (by kernel_rfl) (by decide) (by kernel_rfl) (fun K hK => ?_)
            go_simp
            refine (HRTX.out _ hS2).mono ?_
            rintro e w4 ⟨rfl, hbw4⟩
            have hS3 : Below wr.heap.size wr w4 := hS2.trans (hbw4.mono hS2.size)
            refine hK _ _ hS3 (forced_S (by kernel_rfl) ?_)
            clear hK K
            try simp only [Act.put, List.getElem_toArray, List.getElem_cons_succ, List.getElem_cons_zero, List.setIfInBounds_toArray, List.set_cons_zero, List.set_cons_succ]
            try simp only [Act.put, List.getElem_toArray, List.getElem_cons_succ, List.getElem_cons_zero, List.setIfInBounds_toArray, List.set_cons_zero, List.set_cons_succ]
            simp only [List.drop_succ_cons, List.drop_zero]
            have HB4 := Lib.hid (HB.out.trans (hS3.mono HB.out.size))
            clear hS0 hS1 hS2 hS3 hbw2 hbw3 hbw4 ho2
            go_wp2
            go_roundg (L.length - (k + 1))
            case measure => omega
            case rel => exact ⟨k + 1, by go_num, hkl, rfl, HB4⟩
      · obtain rfl : k = L.length := by omega
        have HF := Lib.hid (H.out.below HB.out)
        have HRDF := Lib.hid (BnReadF_any a sb (by omega) wr HF.out.t HF.out.m HF.out.p (HF.out.s.someS _ (by decide)))
        go_wp2_with fail
        refine HRDF.out.mono ?_
        rintro e w3 ⟨v7, r8, rfl, hev, ho7, hb3⟩
        have HB3 := Lib.hid (HB.out.trans (hb3.mono HB.out.size))
        have HEV := Lib.hid hev
        have HO7 := Lib.hid ho7
        have HRRD := Lib.hid (RReadHelds_any (bs sb) (by rw [bs_size]; omega) w3)
        unfold RReadPost at HRRD
        rw [bs_toList] at HRRD
        clear hev ho7 hb3
        have hrlen : (readHF sb).1.length ≤ sb.length := readHF_len sb
        generalize readHF sb = RH at *
        obtain ⟨M, F⟩ := RH
        simp only at HEV HO7 HRRD hrlen
        go_wp2_with fail
        refine HRRD.out.mono ?_
        rintro e w4 ⟨v9, rfl, ho9, hb4⟩
        have hb5 := hb4.alloc hb4.size (.cells #[.int .i64 F.1, .int .i64 F.2] 76)
        have HBX5 := Lib.hid (Box2.mk' w4 (.int .i64 F.1) (.int .i64 F.2) 76)
        have HB5 := Lib.hid (HB3.out.trans (hb5.mono HB3.out.size))
        have HEV5 := Lib.hid (HEV.out.below hb5)
        have HO75 := Lib.hid (own_belowI HO7.out hb5)
        have HO95 := Lib.hid (own_belowI ho9 ((Below.refl w4.heap.size w4).alloc (Nat.le_refl _) (.cells #[.int .i64 F.1, .int .i64 F.2] 76)))
        obtain ⟨A7, c7, rfl⟩ := own_formI HO7.out
        obtain ⟨A9, c9, rfl⟩ := own_formI ho9
        have HL5 : Hid (w4.heap.size < (w4.alloc (.cells #[.int .i64 F.1, .int .i64 F.2] 76)).heap.size) := Lib.hid (by simp)
        have HW4 := Lib.hid hb4.size
        clear hb4 hb5 ho9
        go_wp2_with fail
        generalize w4.alloc (.cells #[.int .i64 F.1, .int .i64 F.2] 76) = w5 at *
        obtain ⟨z0, z1, _, _⟩ := HBX5.out
        go_wp2_with fail
        refine (faulted1_same a r8 F w5 (H.out.below HB5.out).s HEV5.out).mono ?_
        rintro e w6 ⟨rfl, hb6⟩
        have HB6 := Lib.hid (HB5.out.trans (hb6.mono HB5.out.size))
        have HBX6 := Lib.hid (HBX5.out.below hb6 HL5.out)
        have HSH := Lib.hid (SameHelds_same (.slice A7 M.length c7) (.slice A9 M.length c9) M (by omega) w6.heap.size w6 ((RdL.own (own_belowI HO75.out hb6)).two) ((RdL.own (own_belowI HO95.out hb6)).two) (Nat.le_refl _))
        clear hb6 z0 z1
        go_wp2_with fail
        refine HSH.out.mono ?_
        rintro e w7 ⟨rfl, hb7⟩
        have HB7 := Lib.hid (HB6.out.trans (hb7.mono HB6.out.size))
        have HBX7 := Lib.hid (HBX6.out.below hb7 HBX6.out.lt)
        clear hb7
        go_wp2_with fail
        refine (BnNew_any w7).mono ?_
        rintro e w8 ⟨b, mb, rfl, hO8, hbg, hmg, hb8⟩
        have HB8 := Lib.hid (HB7.out.trans (hb8.mono HB7.out.size))
        have HBX8 := Lib.hid (HBX7.out.below hb8 HBX7.out.lt)
        have HNE : Hid (w4.heap.size ≠ b ∧ w4.heap.size ≠ mb ∧ w.heap.size ≤ b ∧ w.heap.size ≤ mb) := Lib.hid (by have := HBX7.out.lt; have := HB7.out.size; omega)
        have HPUT := Lib.hid (BnPut_any a b mb [] 0 (by decide) (BinOk.nil 0) (by decide) wasL (by decide) w8 hO8 ((H.out.below HB8.out).s.someS _ (by decide)))
        clear hO8 hbg hmg hb8
        go_wp2_with fail
        refine HPUT.out.mono ?_
        rintro e w9 ⟨r9, rfl, hev9, hO9, hg9⟩
        rw [put_was] at hev9 hO9 ⊢
        obtain ⟨rfl, _⟩ := hev9.nil rfl
        have HB9 := Lib.hid (gb_toBelow HB8.out HB8.out.size HNE.out.2.2.2 hg9)
        have HBX9 := Lib.hid (gb_box2 hg9 HNE.out.2.1 HBX8.out)
        have HO9 := Lib.hid hO9
        have HRFF := Lib.hid (RFillFault_any (.slice A L.length c) L (fun x hx => by have := HX100.out x hx; omega) (by omega) w.heap.size w9 (HV.out.below HB9.out) HB9.out.size)
        clear hev9 hO9 hg9
        go_wp2_with fail
        refine HRFF.out.mono ?_
        rintro e w10 ⟨rfl, hb10⟩
        have HB10 := Lib.hid (HB9.out.trans (hb10.mono HB9.out.size))
        have HO10 := Lib.hid (HO9.out.below hb10)
        have HBX10 := Lib.hid (HBX9.out.below hb10 HBX9.out.lt)
        have HBX11 := Lib.hid (HBX10.out.set (.int .i64 (fillF L).1) (.int .i64 (fillF L).2))
        have HB11 := Lib.hid (below_set2 HB10.out (show w.heap.size ≤ w4.heap.size by have := HB3.out.size; have := HW4.out; omega) (.int .i64 (fillF L).1) (.int .i64 (fillF L).2))
        have HO11 : Hid (OBin b mb was1 ((w10.setCell ⟨w4.heap.size, 0, none⟩ (.int .i64 (fillF L).1)).setCell ⟨w4.heap.size, 1, none⟩ (.int .i64 (fillF L).2))) := Lib.hid ((HO10.out.set HNE.out.1.symm HNE.out.2.1.symm 0 _).set HNE.out.1.symm HNE.out.2.1.symm 1 _)
        obtain ⟨d0, d1, f0, f1⟩ := HBX10.out
        clear hb10
        go_wp2_with fail
        generalize (w10.setCell ⟨w4.heap.size, 0, none⟩ (.int .i64 (fillF L).1)).setCell ⟨w4.heap.size, 1, none⟩ (.int .i64 (fillF L).2) = w11 at *
        have hS0 : Box2 w4.heap.size (.int .i64 (fillF L).1) (.int .i64 (fillF L).2) w11.drew := Box2.drewN HBX11.out 1
        refine region_S (fun w' => Box2 w4.heap.size (.int .i64 (fillF L).1) (.int .i64 (fillF L).2) w') 9 (by kernel_rfl) (by kernel_rfl) ?_
        refine take_S 0 rfl (by kernel_rfl) (by kernel_rfl) hS0 (fun w' hS => by go_simp; rfl) ?_
        refine take_S 1 rfl (by kernel_rfl) (by kernel_rfl) hS0 (fun w' hS => by go_simp; rfl) ?_
        refine take_S 2 rfl (by kernel_rfl) (by kernel_rfl) hS0 (fun w' hS => by go_simp; rfl) ?_
        refine take_S 3 rfl (by kernel_rfl) (by kernel_rfl) hS0 (fun w' hS => by go_simp; rfl) ?_
        refine take_S 4 rfl (by kernel_rfl) (by kernel_rfl) hS0 (fun w' hS => by go_simp; rfl) ?_
        refine take_S 7 rfl (by kernel_rfl) (by kernel_rfl) hS0 (fun w' hS => by have A0 := hS.c0; have A1 := hS.c1; go_simp; rfl) ?_
        have HB11d := Lib.hid HB11.out.drew
        have HO11d : Hid (OBin b mb was1 w11.drew) := Lib.hid (HO11.out.below ((Below.refl _ _).drew))
        generalize w11.drew = w12 at *
        refine carry_S 5 rfl (by kernel_rfl) (by decide) (by kernel_rfl) (fun K hK => ?_)
        go_simp
        refine (OwnHelds_any (.slice A L.length c) L (by omega) w.heap.size w12 (HV.out.below HB11d.out)).mono ?_
        rintro e w13 ⟨v2, rfl, ho2, hb13⟩
        have hS1 : Box2 w4.heap.size (.int .i64 (fillF L).1) (.int .i64 (fillF L).2) w13 := hS0.below hb13 hS0.lt
        refine hK _ _ hS1 ?_
        clear hK K
        try simp only [Act.put, List.getElem_toArray, List.getElem_cons_succ, List.getElem_cons_zero, List.setIfInBounds_toArray, List.set_cons_zero, List.set_cons_succ]
        have HB13 := Lib.hid (HB11d.out.trans (hb13.mono HB11d.out.size))
        have HO13 := Lib.hid (HO11d.out.below hb13)
        obtain ⟨A2, c2, rfl⟩ := own_formI ho2
        refine carry_S 6 rfl (by kernel_rfl) (by decide) (by kernel_rfl) (fun K hK => ?_)
        go_simp
        refine (BnFill_any a b mb was1 (.slice A2 L.length c2) L (by omega) (fun x hx => ⟨HZ.out x hx, by have := HX100.out x hx; omega⟩) w13.heap.size w13 HO13.out (RdL.own ho2) (Nat.le_refl _) ((H.out.below HB13.out).s.someS _ (by decide))).mono ?_
        rintro e w14 ⟨r14, mb', rfl, hev14, hO14, hmb', hg14⟩
        have hS2 : Box2 w4.heap.size (.int .i64 (fillF L).1) (.int .i64 (fillF L).2) w14 := gb_box2 hg14 HNE.out.1 hS1
        refine hK _ _ hS2 ?_
        clear hK K
        try simp only [Act.put, List.getElem_toArray, List.getElem_cons_succ, List.getElem_cons_zero, List.setIfInBounds_toArray, List.set_cons_zero, List.set_cons_succ]
        have HB14 := Lib.hid (gb_toBelow HB13.out HB13.out.size HNE.out.2.2.1 hg14)
        have HO14 := Lib.hid hO14
        refine carry_S 8 rfl (by kernel_rfl) (by decide) (by kernel_rfl) (fun K hK => ?_)
        go_simp
        refine (faulted1_same a r14 (fillF L) w14 (H.out.below HB14.out).s hev14).mono ?_
        rintro e w15 ⟨rfl, hb15⟩
        have hS3 : Box2 w4.heap.size (.int .i64 (fillF L).1) (.int .i64 (fillF L).2) w15 := hS2.below hb15 hS2.lt
        refine hK _ _ hS3 (forced_S (by kernel_rfl) ?_)
        clear hK K
        try simp only [Act.put, List.getElem_toArray, List.getElem_cons_succ, List.getElem_cons_zero, List.setIfInBounds_toArray, List.set_cons_zero, List.set_cons_succ]
        simp only [List.drop_succ_cons, List.drop_zero]
        have HB15 := Lib.hid (HB14.out.trans (hb15.mono HB14.out.size))
        have HO15 := Lib.hid (HO14.out.below hb15)
        have HFOK := Lib.hid (fun (h0 : (fillF L).1 = 0) => fill_ok h0 (n := 9223372036854775807) (fun x hx => (HZ.out x hx).2.2))
        have hcode := fillF_code L
        obtain ⟨e0, e1, _, _⟩ := hS3
        clear hS0 hS1 hS2 ho2 hb13 hev14 hO14 hmb' hg14 hb15 d0 d1 f0 f1
        by_cases h0 : (fillF L).1 = 0
        · have h0i : ¬ (fillF L).1 > 0 := by omega
          have hbo := HFOK.out h0
          rw [if_pos h0] at HO15
          have HALL := Lib.hid (BnAll_any b mb' L _ hbo.1 (by have := hbo.2; omega) w15 HO15.out)
          have HLL := Lib.hid hbo.2
          clear h0 hbo
          go_wp2_with fail
          refine HALL.out.mono ?_
          rintro e w16 ⟨v16, rfl, ho16, hb16⟩
          obtain ⟨A16, c16, rfl⟩ := own_formI ho16
          have HB16 := Lib.hid (HB15.out.trans (hb16.mono HB15.out.size))
          have HSH2 := Lib.hid (SameHelds_same (.slice A16 L.length c16) (.slice A L.length c) L (by omega) w16.heap.size w16 (RdL.own ho16).two ((HV.out.below HB16.out).more HB16.out.size).two (Nat.le_refl _))
          clear ho16 hb16 e0 e1
          go_wp2_with fail
          refine HSH2.out.mono ?_
          rintro e w17 ⟨rfl, hb17⟩
          have HB17 := Lib.hid (HB16.out.trans (hb17.mono HB16.out.size))
          clear hb17
          go_wp2
          go_ret
          exact ⟨rfl, HB17.out⟩
        · have h0i : (fillF L).1 > 0 := by omega
          rw [if_neg h0] at HO15
          have HSZ := Lib.hid (BnSize_any b mb' was1 1 ok_was (by decide) w15 HO15.out)
          rw [size_was] at HSZ
          clear h0
          go_wp2_with fail
          refine HSZ.out.mono ?_
          rintro e w16 ⟨rfl, hb16⟩
          have HB16 := Lib.hid (HB15.out.trans (hb16.mono HB15.out.size))
          clear hb16 e0 e1
          go_wp2
          go_ret
          exact ⟨rfl, HB16.out⟩
  · have h1i : ¬ (sb.length : Int) > 2000 := by omega
    clear h2 hs
    go_enter Tryz.func6, Tryz.ntmps6
    go_wp2_with fail
    refine HBN.out.mono ?_
    rintro e w1 ⟨rfl, hb1⟩
    go_wp2_with fail
    refine (HLA.out w1 hb1).mono ?_
    rintro e w2 ⟨rfl, hw⟩
    rw [HLG.out]
    have HB1 : Hid (Below w.heap.size w w2) := Lib.hid (by rw [← hw]; exact hb1)
    clear hw
    go_wp2
    go_loopg [6] L.length (fun gh v6 wr => ∃ k : Nat, v6 = .int .i64 k ∧ k ≤ L.length ∧ gh = L.length - k ∧ Hid (Below w.heap.size w wr))
    case atStart => exact ⟨0, rfl, Nat.zero_le _, rfl, HB1⟩
    case round =>
      obtain ⟨k, rfl, hk, hgm, HB⟩ := hrel
      by_cases hkl : k < L.length
      · obtain ⟨g, o, rfl, hg, hcells⟩ := HX.out (by omega)
        obtain ⟨_, x1, x2, _⟩ := hcells k hkl
        have b1 : (0 : Int) ≤ (k : Int) := by omega
        have b2 : (k : Int) < (L.length : Int) := by omega
        have y1 := (HB.out.cell (p := ⟨g, o + k * 4 + 1, none⟩) hg).trans x1
        have y2 := (HB.out.cell (p := ⟨g, o + k * 4 + 2, none⟩) hg).trans x2
        clear hcells x1 x2
        by_cases h3 : L[k].id.2 < 0
        · go_wp2
          go_roundg (L.length - (k + 1))
          case measure => omega
          case rel => exact ⟨k + 1, by go_num, hkl, rfl, HB⟩
        · by_cases h4 : L[k].uses < 0
          · go_wp2
            go_roundg (L.length - (k + 1))
            case measure => omega
            case rel => exact ⟨k + 1, by go_num, hkl, rfl, HB⟩
          · have hck : ¬ c = k := by omega
            have hrd0 : RdL w w.heap.size (.slice (some ⟨g, o + k * 4, none⟩) 1 (c - k)) [L[k]] := by
              have h0 := RdC.takeM (RdC.cutM HV.out k (by omega)) 1 (by omega)
              rw [if_neg hck, hldRow_drop, hldRow_take, show (L.drop k).take 1 = [L[k]] by rw [List.drop_eq_getElem_cons hkl]; rfl, Option.map_some, add_eqM] at h0
              exact h0
            have HW0 : Hid (IntKind.i64.wrap ((k : Int) + 1) = (k : Int) + 1) := Lib.hid (IntWalk.i64_in _ (by omega))
            have b3 : (k : Int) ≤ (k : Int) + 1 := by omega
            have b4 : (k : Int) + 1 ≤ (c : Int) := by omega
            have HONE : Hid (∀ x ∈ [L[k]], HldW x ∧ x.text.length ≤ 100000) := Lib.hid (fun x hx => by
              rw [List.mem_singleton] at hx
              subst hx
              have := HX100.out L[k] (List.getElem_mem hkl)
              exact ⟨HZ.out _ (List.getElem_mem hkl), by omega⟩)
            have HOWN : Hid (∀ w', Below wr.heap.size wr w' → Calls Tryz.prog 35 #[.slice (some ⟨g, o + k * 4, none⟩) 1 (c - k)] w' fun e w2 => ∃ v', e = .returned v' ∧ w2.ownsRow w'.heap.size 82 4 v' 1 (hldRow [L[k]]) ∧ Below w'.heap.size w' w2) := Lib.hid (fun w' hb => OwnHelds_any _ [L[k]] (by simp) _ w' (hrd0.below (HB.out.trans (hb.mono HB.out.size))))
            have HTXT : Hid (∀ w' v', Below wr.heap.size wr w' → RdL w' w'.heap.size v' [L[k]] → Calls Tryz.prog 27 #[v'] w' fun e w2 => e = .returned (.string (bs (textF [L[k]]))) ∧ Below w'.heap.size w' w2) := Lib.hid (fun w' v' hb hr => BnText_any v' [L[k]] HONE.out (by simp) _ w' hr (Nat.le_refl _) (H.out.t.below (HB.out.trans (hb.mono HB.out.size))))
            have HRTX : Hid (∀ w', Below wr.heap.size wr w' → Calls Tryz.prog 41 #[.slice (some ⟨g, o + k * 4, none⟩) 1 (c - k)] w' fun e w2 => e = .returned (.string (bs (textF [L[k]]))) ∧ Below w'.heap.size w' w2) := Lib.hid (fun w' hb => RHeldsText_any _ [L[k]] HONE.out (by simp) w.heap.size w' (hrd0.below (HB.out.trans (hb.mono HB.out.size))) (Nat.le_trans HB.out.size hb.size))
            clear hrd0
            go_wp2
            have hS0 : Below wr.heap.size wr wr.drew := (Below.refl _ _).drew
            refine region_S (fun w' => Below wr.heap.size wr w') 13 (by kernel_rfl) (by kernel_rfl) ?_
            refine take_S 0 rfl (by kernel_rfl) (by kernel_rfl) hS0 (fun w' hS => by go_simp; rfl) ?_
            refine take_S 1 rfl (by kernel_rfl) (by kernel_rfl) hS0 (fun w' hS => by go_simp; rfl) ?_
            refine take_S 2 rfl (by kernel_rfl) (by kernel_rfl) hS0 (fun w' hS => by go_simp; rfl) ?_
            refine take_S 3 (v := .int .i64 ((k : Int) + 1)) rfl (by kernel_rfl) (by kernel_rfl) hS0 (fun w' hS => by have V1 := HW0.out; go_simp) ?_
            refine take_S 4 rfl (by kernel_rfl) (by kernel_rfl) hS0 (fun w' hS => by go_simp; rfl) ?_
            refine take_S 7 rfl (by kernel_rfl) (by kernel_rfl) hS0 (fun w' hS => by go_simp; rfl) ?_
            refine take_S 8 rfl (by kernel_rfl) (by kernel_rfl) hS0 (fun w' hS => by go_simp; rfl) ?_
            refine take_S 9 rfl (by kernel_rfl) (by kernel_rfl) hS0 (fun w' hS => by go_simp; rfl) ?_
            refine take_S 10 (v := .int .i64 ((k : Int) + 1)) rfl (by kernel_rfl) (by kernel_rfl) hS0 (fun w' hS => by have V1 := HW0.out; go_simp) ?_
            refine take_S 11 rfl (by kernel_rfl) (by kernel_rfl) hS0 (fun w' hS => by go_simp; rfl) ?_
            refine carry_S 5 rfl (by kernel_rfl) (by decide) (by kernel_rfl) (fun K hK => ?_)
            go_simp
            refine (HOWN.out _ hS0).mono ?_
            rintro e w2 ⟨v2, rfl, ho2, hbw2⟩
            have hS1 : Below wr.heap.size wr w2 := hS0.trans (hbw2.mono hS0.size)
            refine hK _ _ hS1 ?_
            clear hK K
            try simp only [Act.put, List.getElem_toArray, List.getElem_cons_succ, List.getElem_cons_zero, List.setIfInBounds_toArray, List.set_cons_zero, List.set_cons_succ]
            refine carry_S 6 rfl (by kernel_rfl) (by decide) (by kernel_rfl) (fun K hK => ?_)
            go_simp
            refine (HTXT.out w2 v2 hS1 (RdL.own ho2)).mono ?_
            rintro e w3 ⟨rfl, hbw3⟩
            have hS2 : Below wr.heap.size wr w3 := hS1.trans (hbw3.mono hS1.size)
            refine hK _ _ hS2 ?_
            clear hK K
            try simp only [Act.put, List.getElem_toArray, List.getElem_cons_succ, List.getElem_cons_zero, List.setIfInBounds_toArray, List.set_cons_zero, List.set_cons_succ]
            refine carry_S 12 rfl (by kernel_rfl) (by decide) (by kernel_rfl) (fun K hK => ?_)
            go_simp
            refine (HRTX.out _ hS2).mono ?_
            rintro e w4 ⟨rfl, hbw4⟩
            have hS3 : Below wr.heap.size wr w4 := hS2.trans (hbw4.mono hS2.size)
            refine hK _ _ hS3 (forced_S (by kernel_rfl) ?_)
            clear hK K
            try simp only [Act.put, List.getElem_toArray, List.getElem_cons_succ, List.getElem_cons_zero, List.setIfInBounds_toArray, List.set_cons_zero, List.set_cons_succ]
            try simp only [Act.put, List.getElem_toArray, List.getElem_cons_succ, List.getElem_cons_zero, List.setIfInBounds_toArray, List.set_cons_zero, List.set_cons_succ]
            simp only [List.drop_succ_cons, List.drop_zero]
            have HB4 := Lib.hid (HB.out.trans (hS3.mono HB.out.size))
            clear hS0 hS1 hS2 hS3 hbw2 hbw3 hbw4 ho2
            go_wp2
            go_roundg (L.length - (k + 1))
            case measure => omega
            case rel => exact ⟨k + 1, by go_num, hkl, rfl, HB4⟩
      · obtain rfl : k = L.length := by omega
        have HF := Lib.hid (H.out.below HB.out)
        have HRDF := Lib.hid (BnReadF_any a sb (by omega) wr HF.out.t HF.out.m HF.out.p (HF.out.s.someS _ (by decide)))
        go_wp2_with fail
        refine HRDF.out.mono ?_
        rintro e w3 ⟨v7, r8, rfl, hev, ho7, hb3⟩
        have HB3 := Lib.hid (HB.out.trans (hb3.mono HB.out.size))
        have HEV := Lib.hid hev
        have HO7 := Lib.hid ho7
        have HRRD := Lib.hid (RReadHelds_any (bs sb) (by rw [bs_size]; omega) w3)
        unfold RReadPost at HRRD
        rw [bs_toList] at HRRD
        clear hev ho7 hb3
        have hrlen : (readHF sb).1.length ≤ sb.length := readHF_len sb
        generalize readHF sb = RH at *
        obtain ⟨M, F⟩ := RH
        simp only at HEV HO7 HRRD hrlen
        go_wp2_with fail
        refine HRRD.out.mono ?_
        rintro e w4 ⟨v9, rfl, ho9, hb4⟩
        have hb5 := hb4.alloc hb4.size (.cells #[.int .i64 F.1, .int .i64 F.2] 76)
        have HBX5 := Lib.hid (Box2.mk' w4 (.int .i64 F.1) (.int .i64 F.2) 76)
        have HB5 := Lib.hid (HB3.out.trans (hb5.mono HB3.out.size))
        have HEV5 := Lib.hid (HEV.out.below hb5)
        have HO75 := Lib.hid (own_belowI HO7.out hb5)
        have HO95 := Lib.hid (own_belowI ho9 ((Below.refl w4.heap.size w4).alloc (Nat.le_refl _) (.cells #[.int .i64 F.1, .int .i64 F.2] 76)))
        obtain ⟨A7, c7, rfl⟩ := own_formI HO7.out
        obtain ⟨A9, c9, rfl⟩ := own_formI ho9
        have HL5 : Hid (w4.heap.size < (w4.alloc (.cells #[.int .i64 F.1, .int .i64 F.2] 76)).heap.size) := Lib.hid (by simp)
        have HW4 := Lib.hid hb4.size
        clear hb4 hb5 ho9
        go_wp2_with fail
        generalize w4.alloc (.cells #[.int .i64 F.1, .int .i64 F.2] 76) = w5 at *
        obtain ⟨z0, z1, _, _⟩ := HBX5.out
        go_wp2_with fail
        refine (faulted1_same a r8 F w5 (H.out.below HB5.out).s HEV5.out).mono ?_
        rintro e w6 ⟨rfl, hb6⟩
        have HB6 := Lib.hid (HB5.out.trans (hb6.mono HB5.out.size))
        have HBX6 := Lib.hid (HBX5.out.below hb6 HL5.out)
        have HSH := Lib.hid (SameHelds_same (.slice A7 M.length c7) (.slice A9 M.length c9) M (by omega) w6.heap.size w6 ((RdL.own (own_belowI HO75.out hb6)).two) ((RdL.own (own_belowI HO95.out hb6)).two) (Nat.le_refl _))
        clear hb6 z0 z1
        go_wp2_with fail
        refine HSH.out.mono ?_
        rintro e w7 ⟨rfl, hb7⟩
        have HB7 := Lib.hid (HB6.out.trans (hb7.mono HB6.out.size))
        have HBX7 := Lib.hid (HBX6.out.below hb7 HBX6.out.lt)
        clear hb7
        go_wp2_with fail
        refine (BnNew_any w7).mono ?_
        rintro e w8 ⟨b, mb, rfl, hO8, hbg, hmg, hb8⟩
        have HB8 := Lib.hid (HB7.out.trans (hb8.mono HB7.out.size))
        have HBX8 := Lib.hid (HBX7.out.below hb8 HBX7.out.lt)
        have HNE : Hid (w4.heap.size ≠ b ∧ w4.heap.size ≠ mb ∧ w.heap.size ≤ b ∧ w.heap.size ≤ mb) := Lib.hid (by have := HBX7.out.lt; have := HB7.out.size; omega)
        have HPUT := Lib.hid (BnPut_any a b mb [] 0 (by decide) (BinOk.nil 0) (by decide) wasL (by decide) w8 hO8 ((H.out.below HB8.out).s.someS _ (by decide)))
        clear hO8 hbg hmg hb8
        go_wp2_with fail
        refine HPUT.out.mono ?_
        rintro e w9 ⟨r9, rfl, hev9, hO9, hg9⟩
        rw [put_was] at hev9 hO9 ⊢
        obtain ⟨rfl, _⟩ := hev9.nil rfl
        have HB9 := Lib.hid (gb_toBelow HB8.out HB8.out.size HNE.out.2.2.2 hg9)
        have HBX9 := Lib.hid (gb_box2 hg9 HNE.out.2.1 HBX8.out)
        have HO9 := Lib.hid hO9
        have HRFF := Lib.hid (RFillFault_any (.slice A L.length c) L (fun x hx => by have := HX100.out x hx; omega) (by omega) w.heap.size w9 (HV.out.below HB9.out) HB9.out.size)
        clear hev9 hO9 hg9
        go_wp2_with fail
        refine HRFF.out.mono ?_
        rintro e w10 ⟨rfl, hb10⟩
        have HB10 := Lib.hid (HB9.out.trans (hb10.mono HB9.out.size))
        have HO10 := Lib.hid (HO9.out.below hb10)
        have HBX10 := Lib.hid (HBX9.out.below hb10 HBX9.out.lt)
        have HBX11 := Lib.hid (HBX10.out.set (.int .i64 (fillF L).1) (.int .i64 (fillF L).2))
        have HB11 := Lib.hid (below_set2 HB10.out (show w.heap.size ≤ w4.heap.size by have := HB3.out.size; have := HW4.out; omega) (.int .i64 (fillF L).1) (.int .i64 (fillF L).2))
        have HO11 : Hid (OBin b mb was1 ((w10.setCell ⟨w4.heap.size, 0, none⟩ (.int .i64 (fillF L).1)).setCell ⟨w4.heap.size, 1, none⟩ (.int .i64 (fillF L).2))) := Lib.hid ((HO10.out.set HNE.out.1.symm HNE.out.2.1.symm 0 _).set HNE.out.1.symm HNE.out.2.1.symm 1 _)
        obtain ⟨d0, d1, f0, f1⟩ := HBX10.out
        clear hb10
        go_wp2_with fail
        generalize (w10.setCell ⟨w4.heap.size, 0, none⟩ (.int .i64 (fillF L).1)).setCell ⟨w4.heap.size, 1, none⟩ (.int .i64 (fillF L).2) = w11 at *
        have hS0 : Box2 w4.heap.size (.int .i64 (fillF L).1) (.int .i64 (fillF L).2) w11.drew := Box2.drewN HBX11.out 1
        refine region_S (fun w' => Box2 w4.heap.size (.int .i64 (fillF L).1) (.int .i64 (fillF L).2) w') 9 (by kernel_rfl) (by kernel_rfl) ?_
        refine take_S 0 rfl (by kernel_rfl) (by kernel_rfl) hS0 (fun w' hS => by go_simp; rfl) ?_
        refine take_S 1 rfl (by kernel_rfl) (by kernel_rfl) hS0 (fun w' hS => by go_simp; rfl) ?_
        refine take_S 2 rfl (by kernel_rfl) (by kernel_rfl) hS0 (fun w' hS => by go_simp; rfl) ?_
        refine take_S 3 rfl (by kernel_rfl) (by kernel_rfl) hS0 (fun w' hS => by go_simp; rfl) ?_
        refine take_S 4 rfl (by kernel_rfl) (by kernel_rfl) hS0 (fun w' hS => by go_simp; rfl) ?_
        refine take_S 7 rfl (by kernel_rfl) (by kernel_rfl) hS0 (fun w' hS => by have A0 := hS.c0; have A1 := hS.c1; go_simp; rfl) ?_
        have HB11d := Lib.hid HB11.out.drew
        have HO11d : Hid (OBin b mb was1 w11.drew) := Lib.hid (HO11.out.below ((Below.refl _ _).drew))
        generalize w11.drew = w12 at *
        refine carry_S 5 rfl (by kernel_rfl) (by decide) (by kernel_rfl) (fun K hK => ?_)
        go_simp
        refine (OwnHelds_any (.slice A L.length c) L (by omega) w.heap.size w12 (HV.out.below HB11d.out)).mono ?_
        rintro e w13 ⟨v2, rfl, ho2, hb13⟩
        have hS1 : Box2 w4.heap.size (.int .i64 (fillF L).1) (.int .i64 (fillF L).2) w13 := hS0.below hb13 hS0.lt
        refine hK _ _ hS1 ?_
        clear hK K
        try simp only [Act.put, List.getElem_toArray, List.getElem_cons_succ, List.getElem_cons_zero, List.setIfInBounds_toArray, List.set_cons_zero, List.set_cons_succ]
        have HB13 := Lib.hid (HB11d.out.trans (hb13.mono HB11d.out.size))
        have HO13 := Lib.hid (HO11d.out.below hb13)
        obtain ⟨A2, c2, rfl⟩ := own_formI ho2
        refine carry_S 6 rfl (by kernel_rfl) (by decide) (by kernel_rfl) (fun K hK => ?_)
        go_simp
        refine (BnFill_any a b mb was1 (.slice A2 L.length c2) L (by omega) (fun x hx => ⟨HZ.out x hx, by have := HX100.out x hx; omega⟩) w13.heap.size w13 HO13.out (RdL.own ho2) (Nat.le_refl _) ((H.out.below HB13.out).s.someS _ (by decide))).mono ?_
        rintro e w14 ⟨r14, mb', rfl, hev14, hO14, hmb', hg14⟩
        have hS2 : Box2 w4.heap.size (.int .i64 (fillF L).1) (.int .i64 (fillF L).2) w14 := gb_box2 hg14 HNE.out.1 hS1
        refine hK _ _ hS2 ?_
        clear hK K
        try simp only [Act.put, List.getElem_toArray, List.getElem_cons_succ, List.getElem_cons_zero, List.setIfInBounds_toArray, List.set_cons_zero, List.set_cons_succ]
        have HB14 := Lib.hid (gb_toBelow HB13.out HB13.out.size HNE.out.2.2.1 hg14)
        have HO14 := Lib.hid hO14
        refine carry_S 8 rfl (by kernel_rfl) (by decide) (by kernel_rfl) (fun K hK => ?_)
        go_simp
        refine (faulted1_same a r14 (fillF L) w14 (H.out.below HB14.out).s hev14).mono ?_
        rintro e w15 ⟨rfl, hb15⟩
        have hS3 : Box2 w4.heap.size (.int .i64 (fillF L).1) (.int .i64 (fillF L).2) w15 := hS2.below hb15 hS2.lt
        refine hK _ _ hS3 (forced_S (by kernel_rfl) ?_)
        clear hK K
        try simp only [Act.put, List.getElem_toArray, List.getElem_cons_succ, List.getElem_cons_zero, List.setIfInBounds_toArray, List.set_cons_zero, List.set_cons_succ]
        simp only [List.drop_succ_cons, List.drop_zero]
        have HB15 := Lib.hid (HB14.out.trans (hb15.mono HB14.out.size))
        have HO15 := Lib.hid (HO14.out.below hb15)
        have HFOK := Lib.hid (fun (h0 : (fillF L).1 = 0) => fill_ok h0 (n := 9223372036854775807) (fun x hx => (HZ.out x hx).2.2))
        have hcode := fillF_code L
        obtain ⟨e0, e1, _, _⟩ := hS3
        clear hS0 hS1 hS2 ho2 hb13 hev14 hO14 hmb' hg14 hb15 d0 d1 f0 f1
        by_cases h0 : (fillF L).1 = 0
        · have h0i : ¬ (fillF L).1 > 0 := by omega
          have hbo := HFOK.out h0
          rw [if_pos h0] at HO15
          have HALL := Lib.hid (BnAll_any b mb' L _ hbo.1 (by have := hbo.2; omega) w15 HO15.out)
          have HLL := Lib.hid hbo.2
          clear h0 hbo
          go_wp2_with fail
          refine HALL.out.mono ?_
          rintro e w16 ⟨v16, rfl, ho16, hb16⟩
          obtain ⟨A16, c16, rfl⟩ := own_formI ho16
          have HB16 := Lib.hid (HB15.out.trans (hb16.mono HB15.out.size))
          have HSH2 := Lib.hid (SameHelds_same (.slice A16 L.length c16) (.slice A L.length c) L (by omega) w16.heap.size w16 (RdL.own ho16).two ((HV.out.below HB16.out).more HB16.out.size).two (Nat.le_refl _))
          clear ho16 hb16 e0 e1
          go_wp2_with fail
          refine HSH2.out.mono ?_
          rintro e w17 ⟨rfl, hb17⟩
          have HB17 := Lib.hid (HB16.out.trans (hb17.mono HB16.out.size))
          clear hb17
          go_wp2
          go_ret
          exact ⟨rfl, HB17.out⟩
        · have h0i : (fillF L).1 > 0 := by omega
          rw [if_neg h0] at HO15
          have HSZ := Lib.hid (BnSize_any b mb' was1 1 ok_was (by decide) w15 HO15.out)
          rw [size_was] at HSZ
          clear h0
          go_wp2_with fail
          refine HSZ.out.mono ?_
          rintro e w16 ⟨rfl, hb16⟩
          have HB16 := Lib.hid (HB15.out.trans (hb16.mono HB15.out.size))
          clear hb16 e0 e1
          go_wp2
          go_ret
          exact ⟨rfl, HB16.out⟩
theorem BinFills_walk (a : Nat → Addr) (v : Value) (L : HldL) (s : ByteArray) (hl : L.length ≤ maxLen) (hz : ∀ x ∈ L, HldW x ∧ x.text.length ≤ maxLen) (w : World) (hv : RdL w w.heap.size v L) (h : FilW a w) :
    Calls Tryz.prog 6 #[v, .string s] w fun e w' => e = .returned (.bool true) ∧ Below w.heap.size w w' := by
  cases hlong : longHB L with
  | true => exact BinFills_long a v L hl (fun x hx => (hz x hx).2) s hlong w hv h
  | false =>
    by_cases h2 : 2000 < s.size ∧ s.size ≠ 40001
    · exact BinFills_longS a v L hl (fun x hx => (hz x hx).2) s hlong h2 w hv h
    · have := BinFills_main a v L (fun x hx => (hz x hx).1) s.data.toList hlong (by rw [← size_toList]; exact h2) w hv h
      rwa [bs_of] at this
end Go.Proofs.YtpanoplcamdnkaaGreatDoor

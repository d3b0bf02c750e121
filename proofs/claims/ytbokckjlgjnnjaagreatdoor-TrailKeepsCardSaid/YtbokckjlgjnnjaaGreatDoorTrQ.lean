/- Trails: walks of Names, of the reference's InTexts, and of trailed (a closed fact). Condition: the sentinels lie as named (Sents). -/
import Derived.Test.YtbokckjlgjnnjaaGreatDoorTrM
import Derived.Test.YtbokckjlgjnnjaaGreatDoorRcA
import Derived.Test.YtbokckjlgjnnjaaGreatDoorTrl3
import Derived.Test.YtbokckjlgjnnjaaGreatDoorErrV
import Derived.Test.YtbokckjlgjnnjaaGreatDoorIterC
namespace Go.Proofs.YtbokckjlgjnnjaaGreatDoor
open Go.RowKit Go.Lib Go.Maps Go.Sort Go.Shelf Go.WideMaps

/-- an element of the set reads as nothing more -/
def setElem : Value → Option (DataW Unit × List MemPlace) := fun _ => some (ansU 0 [], [])
theorem names_row {l : EntL} {base : Nat} {w : World} {v : Value} {ss : List (List UInt8)} (hp : ss.Perm (strKeys (dataOf (namesT l)))) (hrow : w.ownsRow base 9 1 v ss.length ((ss.mergeSort (fun x y => decide (x ≤ y))).map encStr)) : Rd w w.heap.size v ((namesL l).map VT) := by
  rw [keys_data] at hp
  have h := Rd.own hrow
  rw [sort_keys (srt_namesT l) hp] at h
  exact h
def NamesPost (l : EntL) (w : World) (e : Ending) (w' : World) : Prop := ∃ v, e = .returned v ∧ Rd w' w'.heap.size v ((namesL l).map VT) ∧ Below w.heap.size w w'
set_option maxRecDepth 100000 in
set_option maxHeartbeats 2000000 in
theorem TNames_any (v : Value) (l : EntL) (hb : ∀ e ∈ l, RcpB e.r) (hl : l.length ≤ 1000000) (w : World) (hv : RdT w w.heap.size v l) :
    Calls Tryz.prog 14 #[v] w (NamesPost l w) := by
  obtain ⟨A, c, hvA, _, S, hS, hx⟩ := hv.form
  subst hvA
  have HX := Lib.hid hx
  have HS := Lib.hid hS
  have HRB := Lib.hid hb
  have hmm := @run_makeMap Tryz.prog
  clear hv hx hS hb
  go_enter Tryz.func14, Tryz.ntmps14
  go_wp2
  clear hmm
  have hmap0 : (w.alloc (.map #[] 0)).ownsMap Tryz.prog 9 setElem w.heap.size 0 (dataOf (namesFrom [] (l.take 0))) := World.ownsMap_made w Tryz.prog 9 setElem
  have hB0 : Below w.heap.size w (w.alloc (.map #[] 0)) := (Below.refl _ _).alloc (Nat.le_refl _) _
  have HM0 := Lib.hid hmap0
  have HB0 := Lib.hid hB0
  clear hmap0 hB0
  go_loopg [9] l.length (fun gh vi wr => ∃ k : Nat, vi = .int .i64 k ∧ k ≤ l.length ∧ gh = l.length - k ∧ wr.ownsMap Tryz.prog 9 setElem w.heap.size k (dataOf (namesFrom [] (l.take k))) ∧ Below w.heap.size w wr)
  case atStart => exact ⟨0, rfl, Nat.zero_le _, rfl, HM0.out, HB0.out⟩
  case round =>
    obtain ⟨k, rfl, hk, hgm, hM, hB⟩ := hrel
    by_cases hkl : k < l.length
    · obtain ⟨g, o, rfl, hg, hcell⟩ := HX.out (by omega)
      obtain ⟨c0, c1, c2, c3, c4⟩ := hcell k hkl
      have b1 : (0 : Int) ≤ (k : Int) := by omega
      have b2 : (k : Int) < (l.length : Int) := by omega
      have hrb := HRB.out l[k] (List.getElem_mem hkl)
      obtain ⟨SA, sc, hSA⟩ := (HS.out k hkl).slice
      rw [hSA] at c4
      have d0 := (hB.cell (p := ⟨g, o + k * 5, none⟩) hg).trans c0
      have d1 := (hB.cell (p := ⟨g, o + k * 5 + 1, none⟩) hg).trans c1
      have d2 := (hB.cell (p := ⟨g, o + k * 5 + 2, none⟩) hg).trans c2
      have d3 := (hB.cell (p := ⟨g, o + k * 5 + 3, none⟩) hg).trans c3
      have d4 := (hB.cell (p := ⟨g, o + k * 5 + 4, none⟩) hg).trans c4
      have HT := Lib.hid (show dataOf (namesFrom [] (l.take (k + 1))) = (dataOf (namesFrom [] (l.take k))).put (.string l[k].r.name) (ansU 0 []) by rw [namesFrom_take hkl, put_data _ (srt_names _ (by simp [Srt]))])
      generalize l[k] = ek at *
      have hkey : keyOf Tryz.prog 9 (.string (bs ek.r.name)) = some (.string ek.r.name) := by
        have h := keyOf_string_mk (P := Tryz.prog) Tryz.underlying9 (s := bs ek.r.name) (by rw [bs_size]; have := hrb.n; unfold maxLen; omega)
        rw [bs_toList] at h
        exact h
      have HKEY := Lib.hid hkey
      have HM := Lib.hid (hM.alloc (.cells #[.int .i64 ek.day, VT ek.r.name, .int .i64 ek.r.len, .int .u32 (ek.r.print : Int), .slice SA ek.r.ids.length sc] 38))
      have HB := Lib.hid (hB.alloc hB.size (.cells #[.int .i64 ek.day, VT ek.r.name, .int .i64 ek.r.len, .int .u32 (ek.r.print : Int), .slice SA ek.r.ids.length sc] 38))
      clear hcell c0 c1 c2 c3 c4 hSA hM hB hkey
      go_wp2_with (first | (at_mapUpdate; refine wpList_mapUpdate_own _ rfl _ _ _ 94 rfl 9 4 lawSt Tryz.underlying94 setElem w.heap.size k _ rfl HM.out (by unfold maxLen; omega) _ _ (.string ek.r.name) rfl rfl HKEY.out (ansU 0 []) [] rfl ?_; intro w2 hown2 hgr2) | fail)
      have HM2 := Lib.hid hown2
      have HB2 := Lib.hid (HB.out.grown hgr2 HB.out.size (fun r e => by injection e with e; omega))
      clear hown2 hgr2
      go_wp2
      go_roundg (l.length - (k + 1))
      case measure => omega
      case rel => exact ⟨k + 1, by go_num, hkl, rfl, by rw [HT.out]; exact HM2.out, HB2.out⟩
    · obtain rfl : k = l.length := by omega
      rw [List.take_length] at hM
      have hsz : Maps.size (dataOf (namesT l)) ≤ 1000000 := by rw [size_data]; have := namesFrom_len l []; unfold namesT; simp at this; omega
      have HM := Lib.hid hM
      have HB := Lib.hid hB
      clear hM hB
      go_wp2_with fail
      refine (callsIn_wide.1 (Tryz.maps_Keys_53 _ _)).mono ?_
      rintro e w2 ⟨rfl, rfl⟩
      go_wp2_with fail
      refine (callsIn_wide.1 (Tryz.slices_Sorted_keys_52_53 w.heap.size l.length (dataOf (namesT l)) setElem wr HM.out (by unfold maxLen; omega) (by omega))).mono ?_
      rintro e w3 ⟨v3, ss, rfl, hp, hrow, _, hb3⟩
      have hrd := names_row hp hrow
      have HRD := Lib.hid hrd
      have ha : Below wr.heap.size wr (wr.alloc (.cells #[.map (some w.heap.size)] 94)) := (Below.refl _ _).alloc (Nat.le_refl _) _
      have HB3 := Lib.hid ((HB.out.trans (ha.mono HB.out.size)).trans (hb3.mono (HB.out.trans (ha.mono HB.out.size)).size))
      obtain ⟨A3, c3, hv3⟩ := own_formI hrow
      subst hv3
      clear hp hrow hb3 hrd ha
      go_wp2
      go_ret
      exact ⟨_, rfl, HRD.out, HB3.out⟩
def inTexts (t : Bytes) (L : List Bytes) : Bool := L.any (fun x => x == t)
theorem inTexts_drop {t : Bytes} {L : List Bytes} {k : Nat} (h : k < L.length) : inTexts t (L.drop k) = ((L[k] == t) || inTexts t (L.drop (k + 1))) := by rw [List.drop_eq_getElem_cons h]; rfl
set_option maxRecDepth 100000 in
theorem InTexts_any (v : Value) (t : Bytes) (L : List Bytes) (hL : L.length ≤ 1000000) (B : Nat) (w : World) (hv : Rd w B v (L.map VT)) :
    Calls Tryz.prog 25 #[VT t, v] w fun e w' => e = .returned (.bool (inTexts t L)) ∧ w' = w := by
  obtain ⟨A, c, hvA, _, hx⟩ := hv
  rw [List.length_map] at hvA
  subst hvA
  have HX := Lib.hid hx
  clear hx
  have HI : Hid (inTexts t L = inTexts t (L.drop 0)) := Lib.hid rfl
  go_enter Tryz.func25, Tryz.ntmps25
  go_wp2
  go_loopg [5] L.length (fun gh vi wr => ∃ k : Nat, vi = .int .i64 k ∧ k ≤ L.length ∧ gh = L.length - k ∧ Hid (inTexts t L = inTexts t (L.drop k)) ∧ wr = w)
  case atStart => exact ⟨0, rfl, Nat.zero_le _, rfl, HI, rfl⟩
  case round =>
    obtain ⟨k, rfl, hk, hgm, hI, rfl⟩ := hrel
    by_cases hkl : k < L.length
    · have hne : L.map VT ≠ [] := by intro h; rw [List.map_eq_nil_iff] at h; subst h; simp at hkl
      obtain ⟨g, o, rfl, hg, hcell⟩ := HX.out hne
      have d0 : wr.cell? ⟨g, o + k, none⟩ = some (VT L[k]) := hcell k (VT L[k]) (by rw [List.getElem?_map, List.getElem?_eq_getElem hkl]; rfl)
      have b1 : (0 : Int) ≤ (k : Int) := by omega
      have b2 : (k : Int) < (L.length : Int) := by omega
      have hcmp := name_cmp L[k] t
      have hdr := inTexts_drop (t := t) hkl
      clear hcell hne
      cases he : (L[k] == t) with
      | true =>
        rw [he] at hcmp hdr
        have HR : Hid (inTexts t L = true) := Lib.hid (hI.out.trans hdr)
        clear hdr hI
        go_wp2
        go_ret
        exact ⟨by rw [HR.out]; rfl, rfl⟩
      | false =>
        rw [he] at hcmp hdr
        have hI' : Hid (inTexts t L = inTexts t (L.drop (k + 1))) := Lib.hid (hI.out.trans hdr)
        clear hdr hI
        go_wp2
        go_roundg (L.length - (k + 1))
        case measure => omega
        case rel => exact ⟨k + 1, by go_num, hkl, rfl, hI', rfl⟩
    · obtain rfl : k = L.length := by omega
      have HR : Hid (inTexts t L = false) := Lib.hid (hI.out.trans (by rw [List.drop_length]; rfl))
      clear hI
      go_wp2
      go_ret
      exact ⟨by rw [HR.out]; rfl, rfl⟩
/-! ### trailed -/
def helloT : Bytes := [104, 101, 108, 108, 111]
def rcpHelloT : Rcp := ⟨[97], 5, prOf helloT, [(prOf helloT, 5)]⟩
theorem ofRes_helloT : ofRes [97] helloT = (0, rcpHelloT) := by
  have h1 : pieces helloT = [helloT] := by decide
  have h2 : rcpOf [97] helloT = rcpHelloT := by unfold rcpOf idsOf; rw [h1]; rfl
  unfold ofRes
  rw [if_neg (by decide), if_neg (by decide), h2]
theorem bnd_helloT : RcpB rcpHelloT := ⟨by decide, by decide, by decide, prOf_lt _, by decide, fun x hx => by
  rw [List.mem_singleton.1 hx]
  exact ⟨prOf_lt _, by decide, by decide⟩⟩
theorem fault_helloT : (rcpFault rcpHelloT).1 = 0 := by decide
theorem add_helloT : addRes [] ⟨3, rcpHelloT⟩ = ((0, -1), [⟨3, rcpHelloT⟩]) := add_ok rfl (by decide) (entErr_zero.2 ⟨by decide, by decide, fault_helloT⟩)
theorem trail_helloT : trailFault [⟨3, rcpHelloT⟩] = (0, -1) := trailFault_two ((okFrom_fault _ _ _).2 ⟨entErr_zero.2 ⟨by decide, by decide, fault_helloT⟩, trivial⟩)
theorem at_helloT5 : atRes [⟨3, rcpHelloT⟩] [97] 5 = ((0, -1), rcpHelloT) := by rw [at_end (by rw [trail_helloT])]; rfl
theorem at_helloT2 : atRes [⟨3, rcpHelloT⟩] [97] 2 = ((5, -1), rcpZero) := by rw [at_end (by rw [trail_helloT])]; rfl
set_option maxRecDepth 100000 in
set_option maxHeartbeats 2000000 in
theorem Trailed_any (a : Nat → Addr) (w : World) (h : Sents a w) : Calls Tryz.prog 7 #[] w fun e w' => e = .returned (.bool true) ∧ Below w.heap.size w w' := by
  have H := Lib.hid h
  have OF := Lib.hid (RRecipeOf_any ⟨#[97]⟩ ⟨#[104, 101, 108, 108, 111]⟩ (by decide) w)
  have hbx : ∀ e ∈ ([⟨3, rcpHelloT⟩] : EntL), RcpB e.r := fun e he => by rw [List.mem_singleton.1 he]; exact bnd_helloT
  have HBX := Lib.hid hbx
  clear h hbx
  go_enter Tryz.func7, Tryz.ntmps7
  go_wp2_with fail
  refine OF.out.mono ?_
  rintro e w1 ⟨v, rfl, hv, hb1⟩
  rw [show ofRes (⟨#[97]⟩ : ByteArray).data.toList (⟨#[104, 101, 108, 108, 111]⟩ : ByteArray).data.toList = (0, rcpHelloT) from ofRes_helloT] at hv ⊢
  obtain ⟨sl, hv, hrd⟩ := hv
  obtain ⟨A, c, hsl⟩ := hrd.slice
  subst hsl
  have hv' : v = .agg #[.string ⟨#[97]⟩, .int .i64 5, .int .u32 ((prOf helloT : Nat) : Int), .slice A 1 c] := hv
  subst hv'
  have ha2 : Below w1.heap.size w1 (w1.alloc (.cells #[.string ⟨#[97]⟩, .int .i64 5, .int .u32 ((prOf helloT : Nat) : Int), .slice A 1 c] 36)) := (Below.refl _ _).alloc (Nat.le_refl _) _
  have hx2 : Box4 w1.heap.size (.string ⟨#[97]⟩) (.int .i64 5) (.int .u32 ((prOf helloT : Nat) : Int)) (.slice A 1 c) (w1.alloc (.cells #[.string ⟨#[97]⟩, .int .i64 5, .int .u32 ((prOf helloT : Nat) : Int), .slice A 1 c] 36)) := Box4.mk' _ _ _ _ _ _
  have HX2 := Lib.hid hx2
  have HB2 := Lib.hid (hb1.trans (ha2.mono hb1.size))
  have HR2 := Lib.hid ((hrd.keep ha2 (Nat.le_refl _)).more ha2.size)
  clear hv hrd hb1 ha2 hx2
  go_wp2_with fail
  generalize hw2 : w1.alloc (.cells #[.string ⟨#[97]⟩, .int .i64 5, .int .u32 ((prOf helloT : Nat) : Int), .slice A 1 c] 36) = w2 at *
  clear hw2
  generalize w1.heap.size = x1 at *
  refine (TAdd_any a (.slice none 0 0) [] ⟨3, rcpHelloT⟩ (.slice A 1 c) (fun e he => absurd he List.not_mem_nil) bnd_helloT (by decide) w2 (RdT.nil _ _) HR2.out ((H.out.below HB2.out).someS _ (by decide))).mono ?_
  rintro e w3 ⟨v3, r3, rfl, hev, hrd3, hb3⟩
  rw [add_helloT] at hev hrd3
  obtain ⟨rfl, _⟩ := hev.nil rfl
  obtain ⟨A3, c3, hv3, _⟩ := hrd3.form
  subst hv3
  have HB3 := Lib.hid (HB2.out.trans (hb3.mono HB2.out.size))
  have HX3 := Lib.hid (HX2.out.below hb3 HX2.out.lt)
  have HR3 := Lib.hid ((HR2.out.keep hb3 (Nat.le_refl _)).more hb3.size)
  have HT3 := Lib.hid hrd3
  clear hev hrd3 hb3
  go_wp2_with fail
  refine (TAt_any a _ [⟨3, rcpHelloT⟩] ⟨#[97]⟩ 5 HBX.out (by decide) w3 HT3.out ((H.out.below HB3.out).someS _ (by decide))).mono ?_
  rintro e w4 ⟨v4, r4, rfl, hev, hrv, hb4⟩
  rw [show atRes [⟨3, rcpHelloT⟩] (⟨#[97]⟩ : ByteArray).data.toList 5 = ((0, -1), rcpHelloT) from at_helloT5] at hev hrv
  obtain ⟨rfl, _⟩ := hev.nil rfl
  obtain ⟨sl4, hv4, hrd4⟩ := hrv
  obtain ⟨A4, c4, hsl4⟩ := hrd4.slice
  subst hsl4
  have hv4' : v4 = .agg #[.string ⟨#[97]⟩, .int .i64 5, .int .u32 ((prOf helloT : Nat) : Int), .slice A4 1 c4] := hv4
  subst hv4'
  have ha5 : Below w4.heap.size w4 (w4.alloc (.cells #[.string ⟨#[97]⟩, .int .i64 5, .int .u32 ((prOf helloT : Nat) : Int), .slice A4 1 c4] 36)) := (Below.refl _ _).alloc (Nat.le_refl _) _
  have hb5 : Below w3.heap.size w3 (w4.alloc (.cells #[.string ⟨#[97]⟩, .int .i64 5, .int .u32 ((prOf helloT : Nat) : Int), .slice A4 1 c4] 36)) := hb4.trans (ha5.mono hb4.size)
  have HY5 := Lib.hid (Box4.mk' w4 (.string ⟨#[97]⟩) (.int .i64 5) (.int .u32 ((prOf helloT : Nat) : Int)) (.slice A4 1 c4) 36)
  have HB5 := Lib.hid (HB3.out.trans (hb5.mono HB3.out.size))
  have HX5 := Lib.hid (HX3.out.below hb5 HX3.out.lt)
  have HR5 := Lib.hid ((HR3.out.keep hb5 (Nat.le_refl _)).more hb5.size)
  have HQ5 := Lib.hid ((hrd4.keep ha5 (Nat.le_refl _)).more ha5.size)
  have HT5 := Lib.hid (HT3.out.below hb5)
  clear hev hv4 hrd4 hb4 ha5 hb5
  go_wp2_with fail
  generalize hw5 : w4.alloc (.cells #[.string ⟨#[97]⟩, .int .i64 5, .int .u32 ((prOf helloT : Nat) : Int), .slice A4 1 c4] 36) = w5 at *
  clear hw5
  generalize w4.heap.size = x4 at *
  refine (TAt_any a _ [⟨3, rcpHelloT⟩] ⟨#[97]⟩ 2 HBX.out (by decide) w5 HT5.out ((H.out.below HB5.out).someS _ (by decide))).mono ?_
  rintro e w6 ⟨v6, r6, rfl, hev, hrv, hb6⟩
  rw [show atRes [⟨3, rcpHelloT⟩] (⟨#[97]⟩ : ByteArray).data.toList 2 = ((5, -1), rcpZero) from at_helloT2] at hev hrv
  obtain ⟨T6, p6, hr6⟩ := hev.some (by decide)
  subst hr6
  obtain ⟨sl6, hv6, hrd6⟩ := hrv
  obtain ⟨A6, c6, hsl6⟩ := hrd6.slice
  subst hsl6
  have hv6' : v6 = .agg #[.string ⟨#[]⟩, .int .i64 0, .int .u32 0, .slice A6 0 c6] := hv6
  subst hv6'
  have ha7 : Below w6.heap.size w6 (w6.alloc (.cells #[.string ⟨#[]⟩, .int .i64 0, .int .u32 0, .slice A6 0 c6] 36)) := (Below.refl _ _).alloc (Nat.le_refl _) _
  have hb7 : Below w5.heap.size w5 (w6.alloc (.cells #[.string ⟨#[]⟩, .int .i64 0, .int .u32 0, .slice A6 0 c6] 36)) := hb6.trans (ha7.mono hb6.size)
  have HB7 := Lib.hid (HB5.out.trans (hb7.mono HB5.out.size))
  have HX7 := Lib.hid (HX5.out.below hb7 HX5.out.lt)
  have HY7 := Lib.hid (HY5.out.below hb7 HY5.out.lt)
  have HR7 := Lib.hid ((HR5.out.keep hb7 (Nat.le_refl _)).more hb7.size)
  have HQ7 := Lib.hid ((HQ5.out.keep hb7 (Nat.le_refl _)).more hb7.size)
  have HE7 := Lib.hid (hev.below ha7)
  clear hev hv6 hrd6 hb6 ha7 hb7
  obtain ⟨x0, x1', x2, x3, _⟩ := HX7.out
  obtain ⟨y0, y1, y2, y3, _⟩ := HY7.out
  go_wp2_with fail
  generalize hw7 : w6.alloc (.cells #[.string ⟨#[]⟩, .int .i64 0, .int .u32 0, .slice A6 0 c6] 36) = w7 at *
  clear hw7
  refine (SameRecipe_same (.agg #[.string ⟨#[97]⟩, .int .i64 5, .int .u32 ((prOf helloT : Nat) : Int), .slice A4 1 c4]) (.agg #[.string ⟨#[97]⟩, .int .i64 5, .int .u32 ((prOf helloT : Nat) : Int), .slice A 1 c]) rcpHelloT (by decide) w7 ⟨_, rfl, HQ7.out⟩ ⟨_, rfl, HR7.out⟩).mono ?_
  rintro e w8 ⟨rfl, hb8⟩
  have HB8 := Lib.hid (HB7.out.trans (hb8.mono HB7.out.size))
  have FT := Lib.hid (coded3_any a (.iface T6 p6) 5 5 (-1) w8 (H.out.below HB8.out) ((HE7.out.below hb8).toErrV (H.out.below HB8.out)))
  rw [show codedB 5 5 (-1) = true from rfl] at FT
  clear hb8 x0 x1' x2 x3 y0 y1 y2 y3
  go_wp2_with fail
  refine FT.out.mono ?_
  rintro e w9 ⟨rfl, hb9⟩
  have HB9 := Lib.hid (HB8.out.trans (hb9.mono HB8.out.size))
  clear hb9 FT
  go_wp2
  go_ret
  exact ⟨rfl, HB9.out⟩
end Go.Proofs.YtbokckjlgjnnjaaGreatDoor

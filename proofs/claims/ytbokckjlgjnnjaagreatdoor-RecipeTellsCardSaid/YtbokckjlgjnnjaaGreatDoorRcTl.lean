/- Walk of the law RecipeTells. Condition: the sentinels and tables lie as the text lays them (RbW). -/
import Derived.Test.YtbokckjlgjnnjaaGreatDoorRcp2
import Derived.Test.YtbokckjlgjnnjaaGreatDoorRcr2
import Derived.Test.YtbokckjlgjnnjaaGreatDoorOpenR
namespace Go.Proofs.YtbokckjlgjnnjaaGreatDoor
open Go.RowKit Go.Lib

theorem RcpV.form {w : World} {B : Nat} {v : Value} {r : Rcp} (h : RcpV w B v r) : ∃ A c, v = .agg #[VT r.name, .int .i64 r.len, .int .u32 (r.print : Int), .slice A r.ids.length c] := by
  obtain ⟨sl, rfl, hrd⟩ := h
  obtain ⟨A, c, rfl, _⟩ := hrd.form
  exact ⟨A, c, rfl⟩
theorem Box4.set4F {b d : Nat} {x y z u : Value} {w : World} (h : Box4 b x y z u w) (hd : b ≠ d) (x' y' z' u' : Value) :
    Box4 b x y z u ((((w.setCell ⟨d, 0, none⟩ x').setCell ⟨d, 1, none⟩ y').setCell ⟨d, 2, none⟩ z').setCell ⟨d, 3, none⟩ u') := (((h.setFar hd x').setFar hd y').setFar hd z').setFar hd u'
theorem Box4.set2F {b d : Nat} {x y z u : Value} {w : World} (h : Box4 b x y z u w) (hd : b ≠ d) (x' y' : Value) : Box4 b x y z u ((w.setCell ⟨d, 0, none⟩ x').setCell ⟨d, 1, none⟩ y') := (h.setFar hd x').setFar hd y'
theorem Box2.set4F {b d : Nat} {x y : Value} {w : World} (h : Box2 b x y w) (hd : b ≠ d) (x' y' z' u' : Value) :
    Box2 b x y ((((w.setCell ⟨d, 0, none⟩ x').setCell ⟨d, 1, none⟩ y').setCell ⟨d, 2, none⟩ z').setCell ⟨d, 3, none⟩ u') :=
  ⟨(cell_set4 w x' y' z' u' (p := ⟨b, 0, none⟩) hd).trans h.c0, (cell_set4 w x' y' z' u' (p := ⟨b, 1, none⟩) hd).trans h.c1, by simp only [World.frozen?_setCell]; exact h.f0, by simp only [World.frozen?_setCell]; exact h.f1⟩
theorem RcpW.set4F {w : World} {lo hi d : Nat} {v : Value} {r : Rcp} (h : RcpW w lo hi v r) (hd : d < lo ∨ hi ≤ d) (x y z u : Value) :
    RcpW ((((w.setCell ⟨d, 0, none⟩ x).setCell ⟨d, 1, none⟩ y).setCell ⟨d, 2, none⟩ z).setCell ⟨d, 3, none⟩ u) lo hi v r :=
  h.keep (fun _ h1 h2 => cell_set4 w x y z u (by omega)) (Nat.le_refl _) (Nat.le_refl _)
theorem RcpW.set2F {w : World} {lo hi d : Nat} {v : Value} {r : Rcp} (h : RcpW w lo hi v r) (hd : d < lo ∨ hi ≤ d) (x y : Value) :
    RcpW ((w.setCell ⟨d, 0, none⟩ x).setCell ⟨d, 1, none⟩ y) lo hi v r :=
  h.keep (fun _ h1 h2 => cell_set2 w x y (by omega)) (Nat.le_refl _) (Nat.le_refl _)
theorem ev_set2 {a : Nat → Addr} {v : Value} {c t : Int} {w : World} (h : EV a v c t w) {b : Nat} {i j : Int} (hb : Box2 b (.int .i64 i) (.int .i64 j) w) (h2 : w.cell? ⟨b, 2, none⟩ = none) (x y : Value) :
    EV a v c t ((w.setCell ⟨b, 0, none⟩ x).setCell ⟨b, 1, none⟩ y) := by
  rcases h with h | h | ⟨k, g, o, hk, h1, h3, h4, h5⟩
  · exact .inl h
  · exact .inr (.inl h)
  · have far : ∀ (p : Addr), p ≠ ⟨b, 0, none⟩ → p ≠ ⟨b, 1, none⟩ → ((w.setCell ⟨b, 0, none⟩ x).setCell ⟨b, 1, none⟩ y).cell? p = w.cell? p := fun p p0 p1 => by
      rw [World.cell?_setCell_other _ _ _ _ (Ne.symm p1), World.cell?_setCell_other _ _ _ _ (Ne.symm p0)]
    have no0 : (⟨g, o, none⟩ : Addr) ≠ ⟨b, 0, none⟩ := fun e => by
      injection e with e1 e2; subst e1; subst e2; rw [hb.c1] at h5; cases h5
    have no1 : (⟨g, o, none⟩ : Addr) ≠ ⟨b, 1, none⟩ := fun e => by
      injection e with e1 e2; subst e1; subst e2; rw [h2] at h5; cases h5
    refine .inr (.inr ⟨k, g, o, hk, h1, h3, (far _ no0 no1).trans h4, (far _ ?_ ?_).trans h5⟩)
    · intro e; rw [e, hb.c0] at h5; cases h5
    · intro e; rw [e, hb.c1] at h5; cases h5
theorem longR_zero {r : Rcp} (h : longR r = 0) : r.name.length ≤ 30 ∧ r.ids.length ≤ 251 := by
  unfold longR at h
  by_cases h1 : 30 < r.name.length ∨ (60 < r.ids.length ∧ r.ids.length ≠ 251)
  · rw [if_pos h1] at h; omega
  · omega
theorem longR_one {r : Rcp} (h : ¬ longR r = 0) : longR r = 1 := by
  unfold longR at h ⊢
  by_cases hh : 30 < r.name.length ∨ (60 < r.ids.length ∧ r.ids.length ≠ 251)
  · rw [if_pos hh]
  · rw [if_neg hh] at h; exact absurd rfl h
theorem readVal_len (t : Bytes) (ht : t.length ≤ 1500) : (readVal t).ids.length ≤ 1000000 := by
  unfold readVal
  cases h : readRcp t with
  | error f => exact Nat.zero_le _
  | ok r =>
    show r.ids.length ≤ 1000000
    unfold readRcp at h
    rw [if_neg (by omega)] at h
    have hc : (cutAll 32 t).length ≤ t.length + 1 := by have := cutAux_length 32 t []; unfold cutAll; omega
    generalize cutAll 32 t = L at h hc
    match L, h with
    | [], h => cases h
    | [_], h => cases h
    | [_, _], h => cases h
    | p :: q :: s :: ws, h =>
      by_cases hs : (numOf q 6).isSome = true ∧ (unhexOf s).isSome = true
      · obtain ⟨n, hn⟩ := Option.isSome_iff_exists.1 hs.1
        obtain ⟨u, hu⟩ := Option.isSome_iff_exists.1 hs.2
        rw [readWs_ids hn hu] at h
        cases hi : readIds ws with
        | none => rw [hi] at h; cases h
        | some ids =>
          rw [hi] at h
          unfold readEnd at h
          have hl := (readIds_bounds ws ids hi).1
          simp only [] at h
          split at h
          · injection h with h
            rw [← h]
            simp only [List.length_cons] at hc
            show ids.length ≤ _
            omega
          · cases h
      · rw [readWs_no hs] at h; cases h
theorem ofRes_len (n s : Bytes) : (ofRes n s).2.ids.length ≤ 1000000 := by
  unfold ofRes
  split
  · exact Nat.zero_le _
  · split
    · exact Nat.zero_le _
    · have := pieces_len s
      show (idsOf s).length ≤ _
      unfold idsOf; rw [List.length_map]; omega
theorem RcpV.of_keep {w w' : World} {v : Value} {r : Rcp} (h : RcpV w w.heap.size v r) (hb : Below w.heap.size w w') : RcpV w' w'.heap.size v r := h.below hb
theorem cell2_keep {w : World} {b : Nat} (h : w.cell? ⟨b, 2, none⟩ = none) (x y : Value) : ((w.setCell ⟨b, 0, none⟩ x).setCell ⟨b, 1, none⟩ y).cell? ⟨b, 2, none⟩ = none := by
  rw [World.cell?_setCell_other _ _ _ _ (by intro e; injection e with _ e; cases e), World.cell?_setCell_other _ _ _ _ (by intro e; injection e with _ e; cases e)]; exact h
theorem faulted_yes (c t : Int) : faultedB c t c t = true := by unfold faultedB; simp
theorem coded_yes (c : Int) : codedB c c (-1) = true := by unfold codedB; simp
set_option maxRecDepth 100000 in
theorem RcTl_n (a : Nat → Addr) (n s : ByteArray) (v : Value) (r : Rcp) (t : ByteArray) (lv : Value) (ls : List Bytes) (h1 : 30 < n.size) (hn : n.size ≤ maxLen) (w : World) (hv : RcpV w w.heap.size v r) (ho : RcpO r) (hl : Rd w w.heap.size lv (ls.map VT)) (h : RbW a w) :
    Calls Tryz.prog 5 #[.string n, .string s, v, .string t, lv] w fun e w' => e = .returned (.bool true) ∧ Below w.heap.size w w' := by
  obtain ⟨A, c, rfl⟩ := hv.form
  have hl0 := hl
  obtain ⟨Al, cl, hlv, hcl, hcx⟩ := hl
  rw [List.length_map] at hlv hcl
  subst hlv
  have hb0 : Below w.heap.size w (w.alloc (.cells #[VT r.name, .int .i64 r.len, .int .u32 (r.print : Int), .slice A r.ids.length c] 36)) := (Below.refl _ w).alloc (Nat.le_refl _) _
  have hx7 : Box4 w.heap.size (VT r.name) (.int .i64 r.len) (.int .u32 (r.print : Int)) (.slice A r.ids.length c) (w.alloc (.cells #[VT r.name, .int .i64 r.len, .int .u32 (r.print : Int), .slice A r.ids.length c] 36)) := Box4.mk' _ _ _ _ _ _
  have CO := Lib.hid (cooked_any a (w.alloc (.cells #[VT r.name, .int .i64 r.len, .int .u32 (r.print : Int), .slice A r.ids.length c] 36)) (h.below hb0))
  have HB0 := Lib.hid hb0
  have HX0 := Lib.hid hx7
  have HV0 := Lib.hid (hv.below hb0)
  have HRN := Lib.hid ho.n
  have HRC := Lib.hid ho.c
  have h1i : (n.size : Int) > 30 := by omega
  clear h1 hb0 hx7 h ho hcx hl0
  go_enter Tryz.func5, Tryz.ntmps5
  go_wp2_with fail
  refine CO.out.mono ?_
  rintro e w1 ⟨rfl, hb1⟩
  have HB1 := Lib.hid (HB0.out.trans (hb1.mono HB0.out.size))
  clear hb1
  go_wp2
  go_ret
  exact ⟨rfl, HB1.out⟩
set_option maxRecDepth 100000 in
theorem RcTl_s (a : Nat → Addr) (n s : ByteArray) (v : Value) (r : Rcp) (t : ByteArray) (lv : Value) (ls : List Bytes) (h1 : ¬ 30 < n.size) (h2 : 1500 < s.size) (h3 : s.size ≠ 4001) (hn : n.size ≤ maxLen) (w : World) (hv : RcpV w w.heap.size v r) (ho : RcpO r) (hl : Rd w w.heap.size lv (ls.map VT)) (h : RbW a w) :
    Calls Tryz.prog 5 #[.string n, .string s, v, .string t, lv] w fun e w' => e = .returned (.bool true) ∧ Below w.heap.size w w' := by
  obtain ⟨A, c, rfl⟩ := hv.form
  have hl0 := hl
  obtain ⟨Al, cl, hlv, hcl, hcx⟩ := hl
  rw [List.length_map] at hlv hcl
  subst hlv
  have hb0 : Below w.heap.size w (w.alloc (.cells #[VT r.name, .int .i64 r.len, .int .u32 (r.print : Int), .slice A r.ids.length c] 36)) := (Below.refl _ w).alloc (Nat.le_refl _) _
  have hx7 : Box4 w.heap.size (VT r.name) (.int .i64 r.len) (.int .u32 (r.print : Int)) (.slice A r.ids.length c) (w.alloc (.cells #[VT r.name, .int .i64 r.len, .int .u32 (r.print : Int), .slice A r.ids.length c] 36)) := Box4.mk' _ _ _ _ _ _
  have CO := Lib.hid (cooked_any a (w.alloc (.cells #[VT r.name, .int .i64 r.len, .int .u32 (r.print : Int), .slice A r.ids.length c] 36)) (h.below hb0))
  have HB0 := Lib.hid hb0
  have HX0 := Lib.hid hx7
  have HV0 := Lib.hid (hv.below hb0)
  have HRN := Lib.hid ho.n
  have HRC := Lib.hid ho.c
  have h1i : ¬ (n.size : Int) > 30 := by omega
  have h2i : (s.size : Int) > 1500 := by omega
  have h3i : ((s.size : Int) != 4001) = true := by simp; omega
  clear h1 h2 h3 hb0 hx7 h ho hcx hl0
  go_enter Tryz.func5, Tryz.ntmps5
  go_wp2_with fail
  refine CO.out.mono ?_
  rintro e w1 ⟨rfl, hb1⟩
  have HB1 := Lib.hid (HB0.out.trans (hb1.mono HB0.out.size))
  clear hb1
  go_wp2
  go_ret
  exact ⟨rfl, HB1.out⟩
set_option maxRecDepth 100000 in
theorem RcTl_la (a : Nat → Addr) (n s : ByteArray) (v : Value) (r : Rcp) (t : ByteArray) (lv : Value) (ls : List Bytes) (h1 : ¬ 30 < n.size) (h2 : ¬ 1500 < s.size) (h4 : longR r = 1) (hn : n.size ≤ maxLen) (w : World) (hv : RcpV w w.heap.size v r) (ho : RcpO r) (hl : Rd w w.heap.size lv (ls.map VT)) (h : RbW a w) :
    Calls Tryz.prog 5 #[.string n, .string s, v, .string t, lv] w fun e w' => e = .returned (.bool true) ∧ Below w.heap.size w w' := by
  obtain ⟨A, c, rfl⟩ := hv.form
  have hl0 := hl
  obtain ⟨Al, cl, hlv, hcl, hcx⟩ := hl
  rw [List.length_map] at hlv hcl
  subst hlv
  have hb0 : Below w.heap.size w (w.alloc (.cells #[VT r.name, .int .i64 r.len, .int .u32 (r.print : Int), .slice A r.ids.length c] 36)) := (Below.refl _ w).alloc (Nat.le_refl _) _
  have hx7 : Box4 w.heap.size (VT r.name) (.int .i64 r.len) (.int .u32 (r.print : Int)) (.slice A r.ids.length c) (w.alloc (.cells #[VT r.name, .int .i64 r.len, .int .u32 (r.print : Int), .slice A r.ids.length c] 36)) := Box4.mk' _ _ _ _ _ _
  have CO := Lib.hid (cooked_any a (w.alloc (.cells #[VT r.name, .int .i64 r.len, .int .u32 (r.print : Int), .slice A r.ids.length c] 36)) (h.below hb0))
  have HB0 := Lib.hid hb0
  have HX0 := Lib.hid hx7
  have HV0 := Lib.hid (hv.below hb0)
  have HRN := Lib.hid ho.n
  have HRC := Lib.hid ho.c
  have h1i : ¬ (n.size : Int) > 30 := by omega
  have h2i : ¬ (s.size : Int) > 1500 := by omega
  have HLR := Lib.hid h4
  clear h1 h2 h4 hb0 hx7 h ho hcx hl0
  go_enter Tryz.func5, Tryz.ntmps5
  go_wp2_with fail
  refine CO.out.mono ?_
  rintro e w1 ⟨rfl, hb1⟩
  obtain ⟨c0, c1, c2, c3, _⟩ := HX0.out.below hb1 HX0.out.lt
  have HB1 := Lib.hid (HB0.out.trans (hb1.mono HB0.out.size))
  have HV1 := Lib.hid (HV0.out.below hb1)
  clear hb1
  go_wp2_with fail
  refine (LongRecipe_any _ r HRN.out HRC.out _ w1 HV1.out).mono ?_
  rintro e w2 ⟨rfl, hb2⟩
  rw [HLR.out]
  have HB2 := Lib.hid (HB1.out.trans (hb2.mono HB1.out.size))
  clear hb2
  go_wp2
  go_ret
  exact ⟨rfl, HB2.out⟩
set_option maxRecDepth 100000 in
theorem RcTl_ta (a : Nat → Addr) (n s : ByteArray) (v : Value) (r : Rcp) (t : ByteArray) (lv : Value) (ls : List Bytes) (h1 : ¬ 30 < n.size) (h2 : ¬ 1500 < s.size) (h4 : longR r = 0) (h5 : 1500 < t.size) (hn : n.size ≤ maxLen) (w : World) (hv : RcpV w w.heap.size v r) (ho : RcpO r) (hl : Rd w w.heap.size lv (ls.map VT)) (h : RbW a w) :
    Calls Tryz.prog 5 #[.string n, .string s, v, .string t, lv] w fun e w' => e = .returned (.bool true) ∧ Below w.heap.size w w' := by
  obtain ⟨A, c, rfl⟩ := hv.form
  have hl0 := hl
  obtain ⟨Al, cl, hlv, hcl, hcx⟩ := hl
  rw [List.length_map] at hlv hcl
  subst hlv
  have hb0 : Below w.heap.size w (w.alloc (.cells #[VT r.name, .int .i64 r.len, .int .u32 (r.print : Int), .slice A r.ids.length c] 36)) := (Below.refl _ w).alloc (Nat.le_refl _) _
  have hx7 : Box4 w.heap.size (VT r.name) (.int .i64 r.len) (.int .u32 (r.print : Int)) (.slice A r.ids.length c) (w.alloc (.cells #[VT r.name, .int .i64 r.len, .int .u32 (r.print : Int), .slice A r.ids.length c] 36)) := Box4.mk' _ _ _ _ _ _
  have CO := Lib.hid (cooked_any a (w.alloc (.cells #[VT r.name, .int .i64 r.len, .int .u32 (r.print : Int), .slice A r.ids.length c] 36)) (h.below hb0))
  have HB0 := Lib.hid hb0
  have HX0 := Lib.hid hx7
  have HV0 := Lib.hid (hv.below hb0)
  have HRN := Lib.hid ho.n
  have HRC := Lib.hid ho.c
  have h1i : ¬ (n.size : Int) > 30 := by omega
  have h2i : ¬ (s.size : Int) > 1500 := by omega
  have h5i : (t.size : Int) > 1500 := by omega
  have HLR := Lib.hid h4
  clear h1 h2 h5 h4 hb0 hx7 h ho hcx hl0
  go_enter Tryz.func5, Tryz.ntmps5
  go_wp2_with fail
  refine CO.out.mono ?_
  rintro e w1 ⟨rfl, hb1⟩
  obtain ⟨c0, c1, c2, c3, _⟩ := HX0.out.below hb1 HX0.out.lt
  have HB1 := Lib.hid (HB0.out.trans (hb1.mono HB0.out.size))
  have HV1 := Lib.hid (HV0.out.below hb1)
  clear hb1
  go_wp2_with fail
  refine (LongRecipe_any _ r HRN.out HRC.out _ w1 HV1.out).mono ?_
  rintro e w2 ⟨rfl, hb2⟩
  rw [HLR.out]
  have HB2 := Lib.hid (HB1.out.trans (hb2.mono HB1.out.size))
  clear hb2
  go_wp2
  go_ret
  exact ⟨rfl, HB2.out⟩
set_option maxRecDepth 100000 in
theorem RcTl_pa (a : Nat → Addr) (n s : ByteArray) (v : Value) (r : Rcp) (t : ByteArray) (lv : Value) (ls : List Bytes) (h1 : ¬ 30 < n.size) (h2 : ¬ 1500 < s.size) (h4 : longR r = 0) (h5 : ¬ 1500 < t.size) (h6 : 60 < ls.length) (hn : n.size ≤ maxLen) (w : World) (hv : RcpV w w.heap.size v r) (ho : RcpO r) (hl : Rd w w.heap.size lv (ls.map VT)) (h : RbW a w) :
    Calls Tryz.prog 5 #[.string n, .string s, v, .string t, lv] w fun e w' => e = .returned (.bool true) ∧ Below w.heap.size w w' := by
  obtain ⟨A, c, rfl⟩ := hv.form
  have hl0 := hl
  obtain ⟨Al, cl, hlv, hcl, hcx⟩ := hl
  rw [List.length_map] at hlv hcl
  subst hlv
  have hb0 : Below w.heap.size w (w.alloc (.cells #[VT r.name, .int .i64 r.len, .int .u32 (r.print : Int), .slice A r.ids.length c] 36)) := (Below.refl _ w).alloc (Nat.le_refl _) _
  have hx7 : Box4 w.heap.size (VT r.name) (.int .i64 r.len) (.int .u32 (r.print : Int)) (.slice A r.ids.length c) (w.alloc (.cells #[VT r.name, .int .i64 r.len, .int .u32 (r.print : Int), .slice A r.ids.length c] 36)) := Box4.mk' _ _ _ _ _ _
  have CO := Lib.hid (cooked_any a (w.alloc (.cells #[VT r.name, .int .i64 r.len, .int .u32 (r.print : Int), .slice A r.ids.length c] 36)) (h.below hb0))
  have HB0 := Lib.hid hb0
  have HX0 := Lib.hid hx7
  have HV0 := Lib.hid (hv.below hb0)
  have HRN := Lib.hid ho.n
  have HRC := Lib.hid ho.c
  have h1i : ¬ (n.size : Int) > 30 := by omega
  have h2i : ¬ (s.size : Int) > 1500 := by omega
  have h5i : ¬ (t.size : Int) > 1500 := by omega
  have h6i : (ls.length : Int) > 60 := by omega
  have HLR := Lib.hid h4
  clear h1 h2 h5 h6 h4 hb0 hx7 h ho hcx hl0
  go_enter Tryz.func5, Tryz.ntmps5
  go_wp2_with fail
  refine CO.out.mono ?_
  rintro e w1 ⟨rfl, hb1⟩
  obtain ⟨c0, c1, c2, c3, _⟩ := HX0.out.below hb1 HX0.out.lt
  have HB1 := Lib.hid (HB0.out.trans (hb1.mono HB0.out.size))
  have HV1 := Lib.hid (HV0.out.below hb1)
  clear hb1
  go_wp2_with fail
  refine (LongRecipe_any _ r HRN.out HRC.out _ w1 HV1.out).mono ?_
  rintro e w2 ⟨rfl, hb2⟩
  rw [HLR.out]
  have HB2 := Lib.hid (HB1.out.trans (hb2.mono HB1.out.size))
  clear hb2
  go_wp2
  go_ret
  exact ⟨rfl, HB2.out⟩
set_option maxRecDepth 100000 in
theorem RcTl_lb (a : Nat → Addr) (n s : ByteArray) (v : Value) (r : Rcp) (t : ByteArray) (lv : Value) (ls : List Bytes) (h1 : ¬ 30 < n.size) (h2 : 1500 < s.size) (h3 : s.size = 4001) (h4 : longR r = 1) (hn : n.size ≤ maxLen) (w : World) (hv : RcpV w w.heap.size v r) (ho : RcpO r) (hl : Rd w w.heap.size lv (ls.map VT)) (h : RbW a w) :
    Calls Tryz.prog 5 #[.string n, .string s, v, .string t, lv] w fun e w' => e = .returned (.bool true) ∧ Below w.heap.size w w' := by
  obtain ⟨A, c, rfl⟩ := hv.form
  have hl0 := hl
  obtain ⟨Al, cl, hlv, hcl, hcx⟩ := hl
  rw [List.length_map] at hlv hcl
  subst hlv
  have hb0 : Below w.heap.size w (w.alloc (.cells #[VT r.name, .int .i64 r.len, .int .u32 (r.print : Int), .slice A r.ids.length c] 36)) := (Below.refl _ w).alloc (Nat.le_refl _) _
  have hx7 : Box4 w.heap.size (VT r.name) (.int .i64 r.len) (.int .u32 (r.print : Int)) (.slice A r.ids.length c) (w.alloc (.cells #[VT r.name, .int .i64 r.len, .int .u32 (r.print : Int), .slice A r.ids.length c] 36)) := Box4.mk' _ _ _ _ _ _
  have CO := Lib.hid (cooked_any a (w.alloc (.cells #[VT r.name, .int .i64 r.len, .int .u32 (r.print : Int), .slice A r.ids.length c] 36)) (h.below hb0))
  have HB0 := Lib.hid hb0
  have HX0 := Lib.hid hx7
  have HV0 := Lib.hid (hv.below hb0)
  have HRN := Lib.hid ho.n
  have HRC := Lib.hid ho.c
  have h1i : ¬ (n.size : Int) > 30 := by omega
  have h2i : (s.size : Int) > 1500 := by omega
  have h3i : ((s.size : Int) != 4001) = false := by rw [h3]; rfl
  have HLR := Lib.hid h4
  clear h1 h2 h3 h4 hb0 hx7 h ho hcx hl0
  go_enter Tryz.func5, Tryz.ntmps5
  go_wp2_with fail
  refine CO.out.mono ?_
  rintro e w1 ⟨rfl, hb1⟩
  obtain ⟨c0, c1, c2, c3, _⟩ := HX0.out.below hb1 HX0.out.lt
  have HB1 := Lib.hid (HB0.out.trans (hb1.mono HB0.out.size))
  have HV1 := Lib.hid (HV0.out.below hb1)
  clear hb1
  go_wp2_with fail
  refine (LongRecipe_any _ r HRN.out HRC.out _ w1 HV1.out).mono ?_
  rintro e w2 ⟨rfl, hb2⟩
  rw [HLR.out]
  have HB2 := Lib.hid (HB1.out.trans (hb2.mono HB1.out.size))
  clear hb2
  go_wp2
  go_ret
  exact ⟨rfl, HB2.out⟩
set_option maxRecDepth 100000 in
theorem RcTl_tb (a : Nat → Addr) (n s : ByteArray) (v : Value) (r : Rcp) (t : ByteArray) (lv : Value) (ls : List Bytes) (h1 : ¬ 30 < n.size) (h2 : 1500 < s.size) (h3 : s.size = 4001) (h4 : longR r = 0) (h5 : 1500 < t.size) (hn : n.size ≤ maxLen) (w : World) (hv : RcpV w w.heap.size v r) (ho : RcpO r) (hl : Rd w w.heap.size lv (ls.map VT)) (h : RbW a w) :
    Calls Tryz.prog 5 #[.string n, .string s, v, .string t, lv] w fun e w' => e = .returned (.bool true) ∧ Below w.heap.size w w' := by
  obtain ⟨A, c, rfl⟩ := hv.form
  have hl0 := hl
  obtain ⟨Al, cl, hlv, hcl, hcx⟩ := hl
  rw [List.length_map] at hlv hcl
  subst hlv
  have hb0 : Below w.heap.size w (w.alloc (.cells #[VT r.name, .int .i64 r.len, .int .u32 (r.print : Int), .slice A r.ids.length c] 36)) := (Below.refl _ w).alloc (Nat.le_refl _) _
  have hx7 : Box4 w.heap.size (VT r.name) (.int .i64 r.len) (.int .u32 (r.print : Int)) (.slice A r.ids.length c) (w.alloc (.cells #[VT r.name, .int .i64 r.len, .int .u32 (r.print : Int), .slice A r.ids.length c] 36)) := Box4.mk' _ _ _ _ _ _
  have CO := Lib.hid (cooked_any a (w.alloc (.cells #[VT r.name, .int .i64 r.len, .int .u32 (r.print : Int), .slice A r.ids.length c] 36)) (h.below hb0))
  have HB0 := Lib.hid hb0
  have HX0 := Lib.hid hx7
  have HV0 := Lib.hid (hv.below hb0)
  have HRN := Lib.hid ho.n
  have HRC := Lib.hid ho.c
  have h1i : ¬ (n.size : Int) > 30 := by omega
  have h2i : (s.size : Int) > 1500 := by omega
  have h3i : ((s.size : Int) != 4001) = false := by rw [h3]; rfl
  have h5i : (t.size : Int) > 1500 := by omega
  have HLR := Lib.hid h4
  clear h1 h2 h3 h5 h4 hb0 hx7 h ho hcx hl0
  go_enter Tryz.func5, Tryz.ntmps5
  go_wp2_with fail
  refine CO.out.mono ?_
  rintro e w1 ⟨rfl, hb1⟩
  obtain ⟨c0, c1, c2, c3, _⟩ := HX0.out.below hb1 HX0.out.lt
  have HB1 := Lib.hid (HB0.out.trans (hb1.mono HB0.out.size))
  have HV1 := Lib.hid (HV0.out.below hb1)
  clear hb1
  go_wp2_with fail
  refine (LongRecipe_any _ r HRN.out HRC.out _ w1 HV1.out).mono ?_
  rintro e w2 ⟨rfl, hb2⟩
  rw [HLR.out]
  have HB2 := Lib.hid (HB1.out.trans (hb2.mono HB1.out.size))
  clear hb2
  go_wp2
  go_ret
  exact ⟨rfl, HB2.out⟩
set_option maxRecDepth 100000 in
theorem RcTl_pb (a : Nat → Addr) (n s : ByteArray) (v : Value) (r : Rcp) (t : ByteArray) (lv : Value) (ls : List Bytes) (h1 : ¬ 30 < n.size) (h2 : 1500 < s.size) (h3 : s.size = 4001) (h4 : longR r = 0) (h5 : ¬ 1500 < t.size) (h6 : 60 < ls.length) (hn : n.size ≤ maxLen) (w : World) (hv : RcpV w w.heap.size v r) (ho : RcpO r) (hl : Rd w w.heap.size lv (ls.map VT)) (h : RbW a w) :
    Calls Tryz.prog 5 #[.string n, .string s, v, .string t, lv] w fun e w' => e = .returned (.bool true) ∧ Below w.heap.size w w' := by
  obtain ⟨A, c, rfl⟩ := hv.form
  have hl0 := hl
  obtain ⟨Al, cl, hlv, hcl, hcx⟩ := hl
  rw [List.length_map] at hlv hcl
  subst hlv
  have hb0 : Below w.heap.size w (w.alloc (.cells #[VT r.name, .int .i64 r.len, .int .u32 (r.print : Int), .slice A r.ids.length c] 36)) := (Below.refl _ w).alloc (Nat.le_refl _) _
  have hx7 : Box4 w.heap.size (VT r.name) (.int .i64 r.len) (.int .u32 (r.print : Int)) (.slice A r.ids.length c) (w.alloc (.cells #[VT r.name, .int .i64 r.len, .int .u32 (r.print : Int), .slice A r.ids.length c] 36)) := Box4.mk' _ _ _ _ _ _
  have CO := Lib.hid (cooked_any a (w.alloc (.cells #[VT r.name, .int .i64 r.len, .int .u32 (r.print : Int), .slice A r.ids.length c] 36)) (h.below hb0))
  have HB0 := Lib.hid hb0
  have HX0 := Lib.hid hx7
  have HV0 := Lib.hid (hv.below hb0)
  have HRN := Lib.hid ho.n
  have HRC := Lib.hid ho.c
  have h1i : ¬ (n.size : Int) > 30 := by omega
  have h2i : (s.size : Int) > 1500 := by omega
  have h3i : ((s.size : Int) != 4001) = false := by rw [h3]; rfl
  have h5i : ¬ (t.size : Int) > 1500 := by omega
  have h6i : (ls.length : Int) > 60 := by omega
  have HLR := Lib.hid h4
  clear h1 h2 h3 h5 h6 h4 hb0 hx7 h ho hcx hl0
  go_enter Tryz.func5, Tryz.ntmps5
  go_wp2_with fail
  refine CO.out.mono ?_
  rintro e w1 ⟨rfl, hb1⟩
  obtain ⟨c0, c1, c2, c3, _⟩ := HX0.out.below hb1 HX0.out.lt
  have HB1 := Lib.hid (HB0.out.trans (hb1.mono HB0.out.size))
  have HV1 := Lib.hid (HV0.out.below hb1)
  clear hb1
  go_wp2_with fail
  refine (LongRecipe_any _ r HRN.out HRC.out _ w1 HV1.out).mono ?_
  rintro e w2 ⟨rfl, hb2⟩
  rw [HLR.out]
  have HB2 := Lib.hid (HB1.out.trans (hb2.mono HB1.out.size))
  clear hb2
  go_wp2
  go_ret
  exact ⟨rfl, HB2.out⟩
set_option maxRecDepth 100000 in
set_option maxHeartbeats 16000000 in
theorem RcTl_A0 (a : Nat → Addr) (n s : ByteArray) (v : Value) (r : Rcp) (t : ByteArray) (lv : Value) (ls : List Bytes) (h1 : ¬ 30 < n.size) (h2 : ¬ 1500 < s.size) (h4 : longR r = 0) (h5 : ¬ 1500 < t.size) (h6 : ¬ 60 < ls.length) (hf : (rcpFault r).1 = 0) (hn : n.size ≤ maxLen) (w : World) (hv : RcpV w w.heap.size v r) (ho : RcpO r) (hl : Rd w w.heap.size lv (ls.map VT)) (h : RbW a w) :
    Calls Tryz.prog 5 #[.string n, .string s, v, .string t, lv] w fun e w' => e = .returned (.bool true) ∧ Below w.heap.size w w' := by
  obtain ⟨A, c, rfl⟩ := hv.form
  have hl0 := hl
  obtain ⟨Al, cl, hlv, hcl, hcx⟩ := hl
  rw [List.length_map] at hlv hcl
  subst hlv
  have hb0 : Below w.heap.size w (w.alloc (.cells #[VT r.name, .int .i64 r.len, .int .u32 (r.print : Int), .slice A r.ids.length c] 36)) := (Below.refl _ w).alloc (Nat.le_refl _) _
  have hx7 : Box4 w.heap.size (VT r.name) (.int .i64 r.len) (.int .u32 (r.print : Int)) (.slice A r.ids.length c) (w.alloc (.cells #[VT r.name, .int .i64 r.len, .int .u32 (r.print : Int), .slice A r.ids.length c] 36)) := Box4.mk' _ _ _ _ _ _
  have CO := Lib.hid (cooked_any a (w.alloc (.cells #[VT r.name, .int .i64 r.len, .int .u32 (r.print : Int), .slice A r.ids.length c] 36)) (h.below hb0))
  have B_0 := Lib.hid hb0
  have X7_0 := Lib.hid hx7
  have HV := Lib.hid hv
  have H := Lib.hid h
  have HRN := Lib.hid ho.n
  have HRC := Lib.hid ho.c
  have HLR := Lib.hid h4
  have HRB : Hid (RcpB r) := Lib.hid ⟨by have := (longR_zero h4).1; omega, ho.l0, ho.l1, ho.p, by have := (longR_zero h4).2; omega, ho.i⟩
  have HL : Hid (Rd w w.heap.size (.slice Al ls.length cl) (ls.map VT)) := Lib.hid hl0
  have HLX := Lib.hid hcx
  have HLL : Hid (ls.length ≤ 60) := Lib.hid (by omega)
  have HTZ : Hid (t.size ≤ 1500) := Lib.hid (by omega)
  have HNZ : Hid (n.size ≤ 30) := Lib.hid (by omega)
  have HO1 := Lib.hid (ofRes_len n.data.toList s.data.toList)
  have HRV : Hid ((readVal t.data.toList).ids.length ≤ 1000000) := Lib.hid (readVal_len _ (by rw [← size_toList]; omega))
  have HOF := Lib.hid (fun w1 (hs : SomeS [1, 3] a w1) => RcOf_any a n s hn w1 hs)
  have HROF := Lib.hid (fun w1 => RRecipeOf_any n s hn w1)
  have h1i : ¬ (n.size : Int) > 30 := by omega
  have h2i : ¬ (s.size : Int) > 1500 := by omega
  have h5i : ¬ (t.size : Int) > 1500 := by omega
  have h6i : ¬ (ls.length : Int) > 60 := by omega
  have HF : Hid (rcpFault r = (0, -1)) := Lib.hid (rcpFault_two hf)
  have HTX : Hid (textRes r = rcpText r) := Lib.hid (if_pos hf)
  have HF0 := Lib.hid hf
  clear h1 h2 h4 h5 h6 hf hb0 hx7 h ho hcx hv hn hl0
  generalize hf1 : ofRes n.data.toList s.data.toList = f1 at *
  clear hf1
  obtain ⟨k1, r1⟩ := f1
  generalize hr2 : readVal t.data.toList = r2 at *
  generalize he2 : readErr t.data.toList = e2 at *
  have HR2 := Lib.hid hr2
  have HE2 := Lib.hid he2
  clear hr2 he2
  obtain ⟨k2, p2⟩ := e2
  go_enter Tryz.func5, Tryz.ntmps5
  go_wp2_with fail
  refine CO.out.mono ?_
  rintro e w1 ⟨rfl, hb1⟩
  have B_1 := Lib.hid (B_0.out.trans (hb1.mono B_0.out.size))
  have X7_1 := Lib.hid (X7_0.out.below hb1 X7_0.out.lt)
  clear B_0 X7_0
  clear hb1 CO
  obtain ⟨c0, c1, c2, c3, _⟩ := X7_1.out
  go_wp2_with fail
  refine (LongRecipe_any _ r HRN.out HRC.out _ w1 ((HV.out.below B_1.out))).mono ?_
  rintro e w2 ⟨rfl, hb2⟩
  rw [HLR.out]
  clear c0 c1 c2 c3
  have B_2 := Lib.hid (B_1.out.trans (hb2.mono B_1.out.size))
  have X7_2 := Lib.hid (X7_1.out.below hb2 X7_1.out.lt)
  clear B_1 X7_1
  clear hb2
  go_wp2_with fail
  refine (HOF.out w2 (H.out.below B_2.out).two).mono ?_
  rintro e w3 ⟨v3, x3, rfl, hev, hv3, hb3⟩
  obtain ⟨A1, u1, rfl⟩ := hv3.form
  have B_3 := Lib.hid (B_2.out.trans (hb3.mono B_2.out.size))
  have X7_3 := Lib.hid (X7_2.out.below hb3 X7_2.out.lt)
  clear B_2 X7_2
  have Ma := Lib.hid X7_3.out.lt
  have ha4 := (Below.refl w3.heap.size w3).alloc (Nat.le_refl _) (.cells #[VT r1.name, .int .i64 r1.len, .int .u32 (r1.print : Int), .slice A1 r1.ids.length u1] 36)
  have E3_3 := Lib.hid hev
  have B_4 := Lib.hid (B_3.out.trans (ha4.mono B_3.out.size))
  have X7_4 := Lib.hid (X7_3.out.below ha4 X7_3.out.lt)
  have E3_4 := Lib.hid (E3_3.out.below ha4)
  clear B_3 X7_3 E3_3
  have X12_4 : Hid (Box4 w3.heap.size (VT r1.name) (.int .i64 r1.len) (.int .u32 (r1.print : Int)) (.slice A1 r1.ids.length u1) (w3.alloc (.cells #[VT r1.name, .int .i64 r1.len, .int .u32 (r1.print : Int), .slice A1 r1.ids.length u1] 36))) := Lib.hid (Box4.mk' _ _ _ _ _ _)
  have V1_4 := Lib.hid (hv3.below ha4)
  clear hev hv3 hb3 ha4
  go_wp2_with fail
  generalize (w3.alloc (.cells #[VT r1.name, .int .i64 r1.len, .int .u32 (r1.print : Int), .slice A1 r1.ids.length u1] 36)) = w4 at *
  refine (HROF.out w4).mono ?_
  rintro e w5 ⟨v5, rfl, hv5, hb5⟩
  obtain ⟨A2, u2, rfl⟩ := hv5.form
  have B_5 := Lib.hid (B_4.out.trans (hb5.mono B_4.out.size))
  have X7_5 := Lib.hid (X7_4.out.below hb5 X7_4.out.lt)
  have E3_5 := Lib.hid (E3_4.out.below hb5)
  have X12_5 := Lib.hid (X12_4.out.below hb5 X12_4.out.lt)
  have V1_5 := Lib.hid (V1_4.out.below hb5)
  clear B_4 X7_4 E3_4 X12_4 V1_4
  have Mb := Lib.hid X12_5.out.lt
  have ha6 := (Below.refl w5.heap.size w5).alloc (Nat.le_refl _) (.cells #[VT r1.name, .int .i64 r1.len, .int .u32 (r1.print : Int), .slice A2 r1.ids.length u2] 36)
  have B_6 := Lib.hid (B_5.out.trans (ha6.mono B_5.out.size))
  have X7_6 := Lib.hid (X7_5.out.below ha6 X7_5.out.lt)
  have E3_6 := Lib.hid (E3_5.out.below ha6)
  have X12_6 := Lib.hid (X12_5.out.below ha6 X12_5.out.lt)
  have V1_6 := Lib.hid (V1_5.out.below ha6)
  clear B_5 X7_5 E3_5 X12_5 V1_5
  have X14_6 : Hid (Box4 w5.heap.size (VT r1.name) (.int .i64 r1.len) (.int .u32 (r1.print : Int)) (.slice A2 r1.ids.length u2) (w5.alloc (.cells #[VT r1.name, .int .i64 r1.len, .int .u32 (r1.print : Int), .slice A2 r1.ids.length u2] 36))) := Lib.hid (Box4.mk' _ _ _ _ _ _)
  have SM := Lib.hid (SameRecipe_same _ _ r1 HO1.out (w5.alloc (.cells #[VT r1.name, .int .i64 r1.len, .int .u32 (r1.print : Int), .slice A2 r1.ids.length u2] 36)) V1_6.out (hv5.below ha6))
  clear hv5 hb5 ha6 V1_6
  obtain ⟨c0, c1, c2, c3, _⟩ := X12_6.out
  obtain ⟨d0, d1, d2, d3, _⟩ := X14_6.out
  go_wp2_with fail
  generalize (w5.alloc (.cells #[VT r1.name, .int .i64 r1.len, .int .u32 (r1.print : Int), .slice A2 r1.ids.length u2] 36)) = w6 at *
  refine SM.out.mono ?_
  rintro e w7 ⟨rfl, hb7⟩
  clear c0 c1 c2 c3 d0 d1 d2 d3
  have B_7 := Lib.hid (B_6.out.trans (hb7.mono B_6.out.size))
  have X7_7 := Lib.hid (X7_6.out.below hb7 X7_6.out.lt)
  have E3_7 := Lib.hid (E3_6.out.below hb7)
  have X12_7 := Lib.hid (X12_6.out.below hb7 X12_6.out.lt)
  have X14_7 := Lib.hid (X14_6.out.below hb7 X14_6.out.lt)
  clear B_6 X7_6 E3_6 X12_6 X14_6
  clear hb7 SM
  have CD := Lib.hid (coded1_any a x3 k1 k1 (-1) w7 (H.out.below B_7.out).s (evErrV E3_7.out (H.out.below B_7.out).s))
  rw [coded_yes] at CD
  clear E3_7
  go_wp2_with fail
  refine CD.out.mono ?_
  rintro e w8 ⟨rfl, hb8⟩
  have B_8 := Lib.hid (B_7.out.trans (hb8.mono B_7.out.size))
  have X7_8 := Lib.hid (X7_7.out.below hb8 X7_7.out.lt)
  have X12_8 := Lib.hid (X12_7.out.below hb8 X12_7.out.lt)
  have X14_8 := Lib.hid (X14_7.out.below hb8 X14_7.out.lt)
  clear B_7 X7_7 X12_7 X14_7
  have Mc := Lib.hid X14_8.out.lt
  clear hb8 CD
  obtain ⟨c0, c1, c2, c3, _⟩ := X7_8.out
  go_wp2_with fail
  refine (OwnRecipe_any _ r HRB.out.c w8 ((HV.out.below B_8.out))).mono ?_
  rintro e w9 ⟨v9, rfl, hs9, hb9⟩
  obtain ⟨A3, u3, rfl⟩ := hs9.v.form
  clear c0 c1 c2 c3
  have B_9 := Lib.hid (B_8.out.trans (hb9.mono B_8.out.size))
  have X7_9 := Lib.hid (X7_8.out.below hb9 X7_8.out.lt)
  have X12_9 := Lib.hid (X12_8.out.below hb9 X12_8.out.lt)
  have X14_9 := Lib.hid (X14_8.out.below hb9 X14_8.out.lt)
  clear B_8 X7_8 X12_8 X14_8
  have ha10 := (Below.refl w9.heap.size w9).alloc (Nat.le_refl _) (.cells #[VT r.name, .int .i64 r.len, .int .u32 (r.print : Int), .slice A3 r.ids.length u3] 36)
  have B_10 := Lib.hid (B_9.out.trans (ha10.mono B_9.out.size))
  have X7_10 := Lib.hid (X7_9.out.below ha10 X7_9.out.lt)
  have X12_10 := Lib.hid (X12_9.out.below ha10 X12_9.out.lt)
  have X14_10 := Lib.hid (X14_9.out.below ha10 X14_9.out.lt)
  clear B_9 X7_9 X12_9 X14_9
  have X17_10 : Hid (Box4 w9.heap.size (VT r.name) (.int .i64 r.len) (.int .u32 (r.print : Int)) (.slice A3 r.ids.length u3) (w9.alloc (.cells #[VT r.name, .int .i64 r.len, .int .u32 (r.print : Int), .slice A3 r.ids.length u3] 36))) := Lib.hid (Box4.mk' _ _ _ _ _ _)
  have S17_10 := Lib.hid (hs9.below ha10 (Nat.le_refl _))
  have M9 := Lib.hid hb9.size
  clear hs9 hb9 ha10
  obtain ⟨c0, c1, c2, c3, _⟩ := X7_10.out
  go_wp2_with fail
  generalize (w9.alloc (.cells #[VT r.name, .int .i64 r.len, .int .u32 (r.print : Int), .slice A3 r.ids.length u3] 36)) = w10 at *
  refine (RRecipeFault_any _ r HRB.out w10 ((HV.out.below B_10.out))).mono ?_
  rintro e w11 ⟨rfl, hb11⟩
  clear c0 c1 c2 c3
  have B_11 := Lib.hid (B_10.out.trans (hb11.mono B_10.out.size))
  have X7_11 := Lib.hid (X7_10.out.below hb11 X7_10.out.lt)
  have X12_11 := Lib.hid (X12_10.out.below hb11 X12_10.out.lt)
  have X14_11 := Lib.hid (X14_10.out.below hb11 X14_10.out.lt)
  have X17_11 := Lib.hid (X17_10.out.below hb11 X17_10.out.lt)
  have S17_11 := Lib.hid (S17_10.out.below hb11 (Nat.le_of_lt X17_10.out.lt))
  clear B_10 X7_10 X12_10 X14_10 X17_10 S17_10
  have M7 : Hid (w.heap.size < w3.heap.size ∧ w3.heap.size < w5.heap.size ∧ w5.heap.size < w8.heap.size ∧ w9.heap.size < w11.heap.size) := Lib.hid ⟨Ma.out, Mb.out, Mc.out, X17_11.out.lt⟩
  clear Ma Mb Mc
  rw [HF.out]
  have ha12 := (Below.refl w11.heap.size w11).alloc (Nat.le_refl _) (.cells #[.int .i64 (0 : Int), .int .i64 (-1 : Int)] 49)
  have B_12 := Lib.hid (B_11.out.trans (ha12.mono B_11.out.size))
  have X7_12 := Lib.hid (X7_11.out.below ha12 X7_11.out.lt)
  have X12_12 := Lib.hid (X12_11.out.below ha12 X12_11.out.lt)
  have X14_12 := Lib.hid (X14_11.out.below ha12 X14_11.out.lt)
  have X17_12 := Lib.hid (X17_11.out.below ha12 X17_11.out.lt)
  have S17_12 := Lib.hid (S17_11.out.below ha12 (Nat.le_of_lt X17_11.out.lt))
  clear B_11 X7_11 X12_11 X14_11 X17_11 S17_11
  have X18_12 : Hid (Box2 w11.heap.size (.int .i64 (0 : Int)) (.int .i64 (-1 : Int)) (w11.alloc (.cells #[.int .i64 (0 : Int), .int .i64 (-1 : Int)] 49))) := Lib.hid (Box2.mk' _ _ _ _)
  have N18_12 : Hid ((w11.alloc (.cells #[.int .i64 (0 : Int), .int .i64 (-1 : Int)] 49)).cell? ⟨w11.heap.size, 2, none⟩ = none) := Lib.hid (by rw [World.cell?_alloc_at _ _ _ _ rfl]; rfl)
  clear hb11 ha12
  obtain ⟨c0, c1, c2, c3, _⟩ := X17_12.out
  have TX := Lib.hid (RcText_any a _ r HRB.out _ ((S17_12.out.v.more (Nat.le_of_lt X17_12.out.lt))) (H.out.below B_12.out).five (H.out.below B_12.out).t)
  go_wp2_with fail
  generalize (w11.alloc (.cells #[.int .i64 (0 : Int), .int .i64 (-1 : Int)] 49)) = w12 at *
  refine TX.out.mono ?_
  rintro e w13 ⟨x13, rfl, hev, hb13⟩
  clear c0 c1 c2 c3
  have B_13 := Lib.hid (B_12.out.trans (hb13.mono B_12.out.size))
  have X7_13 := Lib.hid (X7_12.out.below hb13 X7_12.out.lt)
  have X12_13 := Lib.hid (X12_12.out.below hb13 X12_12.out.lt)
  have X14_13 := Lib.hid (X14_12.out.below hb13 X14_12.out.lt)
  have X17_13 := Lib.hid (X17_12.out.below hb13 X17_12.out.lt)
  have S17_13 := Lib.hid (S17_12.out.below hb13 (Nat.le_of_lt X17_12.out.lt))
  have X18_13 := Lib.hid (X18_12.out.below hb13 X18_12.out.lt)
  have N18_13 := Lib.hid ((hb13.cell (p := ⟨w11.heap.size, 2, none⟩) X18_12.out.lt).trans N18_12.out)
  clear B_12 X7_12 X12_12 X14_12 X17_12 S17_12 X18_12 N18_12
  have E13_13 := Lib.hid hev
  clear hev hb13 TX
  obtain ⟨d0, d1, _, _⟩ := X18_13.out
  obtain ⟨c0, c1, c2, c3, _⟩ := X7_13.out
  rw [HTX.out]
  go_wp2_with fail
  refine (RRecipeText_any _ r HRB.out HF0.out w13 ((HV.out.below B_13.out))).mono ?_
  rintro e w14 ⟨rfl, hb14⟩
  clear c0 c1 c2 c3 d0 d1
  have B_14 := Lib.hid (B_13.out.trans (hb14.mono B_13.out.size))
  have X7_14 := Lib.hid (X7_13.out.below hb14 X7_13.out.lt)
  have X12_14 := Lib.hid (X12_13.out.below hb14 X12_13.out.lt)
  have X14_14 := Lib.hid (X14_13.out.below hb14 X14_13.out.lt)
  have X17_14 := Lib.hid (X17_13.out.below hb14 X17_13.out.lt)
  have S17_14 := Lib.hid (S17_13.out.below hb14 (Nat.le_of_lt X17_13.out.lt))
  have X18_14 := Lib.hid (X18_13.out.below hb14 X18_13.out.lt)
  have N18_14 := Lib.hid ((hb14.cell (p := ⟨w11.heap.size, 2, none⟩) X18_13.out.lt).trans N18_13.out)
  have E13_14 := Lib.hid (E13_13.out.below hb14)
  clear B_13 X7_13 X12_13 X14_13 X17_13 S17_13 X18_13 N18_13 E13_13
  clear hb14
  go_wp2
  have hS0 : Below w14.heap.size w14 w14.drew := (Below.refl _ _).drew
  refine region_S (fun w' => Below w14.heap.size w14 w') 21 (by kernel_rfl) (by kernel_rfl) ?_
  refine take_S 0 rfl (by kernel_rfl) (by kernel_rfl) hS0 (fun w' hS => by obtain ⟨y0, y1, y2, y3, _⟩ := X17_14.out.below hS X17_14.out.lt; go_simp; rfl) ?_
  refine take_S 2 rfl (by kernel_rfl) (by kernel_rfl) hS0 (fun w' hS => by obtain ⟨y0, y1, _, _⟩ := X18_14.out.below hS X18_14.out.lt; go_simp; rfl) ?_
  refine carry_S 1 rfl (by kernel_rfl) (by decide) (by kernel_rfl) (fun K hK => ?_)
  go_simp
  refine (RcCheck_any a _ r HRB.out _ ((S17_14.out.below hS0 (Nat.le_of_lt X17_14.out.lt)).v.more (Nat.le_trans (Nat.le_of_lt X17_14.out.lt) hS0.size)) (H.out.below (B_14.out.trans (hS0.mono B_14.out.size))).five).mono ?_
  rintro e w15 ⟨x15, rfl, hev, hb15⟩
  have hS1 : Below w14.heap.size w14 w15 := hS0.trans hb15
  have hE15 := hev
  clear hev
  refine hK _ _ hS1 ?_
  clear hK K
  try simp only [Act.put, List.getElem_toArray, List.getElem_cons_succ, List.getElem_cons_zero, List.setIfInBounds_toArray, List.set_cons_zero, List.set_cons_succ]
  rw [HF.out] at hE15
  refine carry_S 3 rfl (by kernel_rfl) (by decide) (by kernel_rfl) (fun K hK => ?_)
  go_simp
  have FT := faulted1_any a x15 (0 : Int) (-1 : Int) (0 : Int) (-1 : Int) w15 (H.out.below (B_14.out.trans (hS1.mono B_14.out.size))).s (evErrV hE15 (H.out.below (B_14.out.trans (hS1.mono B_14.out.size))).s)
  rw [faulted_yes] at FT
  refine FT.mono ?_
  rintro e w16 ⟨rfl, hb16⟩
  have hS2 : Below w14.heap.size w14 w16 := hS1.trans (hb16.mono hS1.size)
  clear FT hE15
  refine hK _ _ hS2 ?_
  clear hK K
  try simp only [Act.put, List.getElem_toArray, List.getElem_cons_succ, List.getElem_cons_zero, List.setIfInBounds_toArray, List.set_cons_zero, List.set_cons_succ]
  refine take_S 4 rfl (by kernel_rfl) (by kernel_rfl) hS2 (fun w' hS => by go_simp; rfl) ?_
  refine take_S 5 rfl (by kernel_rfl) (by kernel_rfl) hS2 (fun w' hS => by go_simp; rfl) ?_
  refine take_S 6 rfl (by kernel_rfl) (by kernel_rfl) hS2 (fun w' hS => by go_simp; rfl) ?_
  refine take_S 7 rfl (by kernel_rfl) (by kernel_rfl) hS2 (fun w' hS => by obtain ⟨y0, y1, _, _⟩ := X18_14.out.below hS X18_14.out.lt; go_simp; rfl) ?_
  refine carry_S 8 rfl (by kernel_rfl) (by decide) (by kernel_rfl) (fun K hK => ?_)
  go_simp
  have hE13 := E13_14.out.below hS2
  rw [HF.out] at hE13
  have FT := faulted1_any a x13 (0 : Int) (-1 : Int) (0 : Int) (-1 : Int) w16 (H.out.below (B_14.out.trans (hS2.mono B_14.out.size))).s (evErrV hE13 (H.out.below (B_14.out.trans (hS2.mono B_14.out.size))).s)
  rw [faulted_yes] at FT
  refine FT.mono ?_
  rintro e w17 ⟨rfl, hb17⟩
  have hS3 : Below w14.heap.size w14 w17 := hS2.trans (hb17.mono hS2.size)
  clear FT hE13
  refine hK _ _ hS3 ?_
  clear hK K
  try simp only [Act.put, List.getElem_toArray, List.getElem_cons_succ, List.getElem_cons_zero, List.setIfInBounds_toArray, List.set_cons_zero, List.set_cons_succ]
  refine take_S 9 rfl (by kernel_rfl) (by kernel_rfl) hS3 (fun w' hS => by go_simp; rfl) ?_
  refine take_S 10 rfl (by kernel_rfl) (by kernel_rfl) hS3 (fun w' hS => by go_simp; rfl) ?_
  refine take_S 11 rfl (by kernel_rfl) (by kernel_rfl) hS3 (fun w' hS => by go_simp; rfl) ?_
  refine take_S 12 rfl (by kernel_rfl) (by kernel_rfl) hS3 (fun w' hS => by go_simp; rfl) ?_
  refine take_S 13 rfl (by kernel_rfl) (by kernel_rfl) hS3 (fun w' hS => by go_simp; rfl) ?_
  refine take_S 14 rfl (by kernel_rfl) (by kernel_rfl) hS3 (fun w' hS => by go_simp; rfl) ?_
  refine take_S 15 rfl (by kernel_rfl) (by kernel_rfl) hS3 (fun w' hS => by go_simp; rfl) ?_
  refine take_S 16 rfl (by kernel_rfl) (by kernel_rfl) hS3 (fun w' hS => by go_simp; rfl) ?_
  refine take_S 17 rfl (by kernel_rfl) (by kernel_rfl) hS3 (fun w' hS => by obtain ⟨y0, y1, y2, y3, _⟩ := X17_14.out.below hS X17_14.out.lt; go_simp; rfl) ?_
  refine take_S 19 rfl (by kernel_rfl) (by kernel_rfl) hS3 (fun w' hS => by obtain ⟨y0, y1, y2, y3, _⟩ := X7_14.out.below hS X7_14.out.lt; go_simp; rfl) ?_
  refine carry_S 18 rfl (by kernel_rfl) (by decide) (by kernel_rfl) (fun K hK => ?_)
  go_simp
  refine (RcRep_any _ r HRB.out.c _ ((S17_14.out.below hS3 (Nat.le_of_lt X17_14.out.lt)).v.more (Nat.le_trans (Nat.le_of_lt X17_14.out.lt) hS3.size))).mono ?_
  rintro e w18 ⟨rfl, hb18⟩
  have hS4 : Below w14.heap.size w14 w18 := hS3.trans (hb18.mono hS3.size)
  refine hK _ _ hS4 ?_
  clear hK K
  try simp only [Act.put, List.getElem_toArray, List.getElem_cons_succ, List.getElem_cons_zero, List.setIfInBounds_toArray, List.set_cons_zero, List.set_cons_succ]
  refine carry_S 20 rfl (by kernel_rfl) (by decide) (by kernel_rfl) (fun K hK => ?_)
  go_simp
  refine (RRepOf_any _ r HRB.out.c _ (HV.out.below (B_14.out.trans (hS4.mono B_14.out.size)))).mono ?_
  rintro e w19 ⟨rfl, hb19⟩
  have hS5 : Below w14.heap.size w14 w19 := hS4.trans (hb19.mono hS4.size)
  refine hK _ _ hS5 (forced_S (by kernel_rfl) ?_)
  clear hK K
  try simp only [Act.put, List.getElem_toArray, List.getElem_cons_succ, List.getElem_cons_zero, List.setIfInBounds_toArray, List.set_cons_zero, List.set_cons_succ]
  simp only [List.drop_succ_cons, List.drop_zero]
  clear E13_14
  have B_19 := Lib.hid (B_14.out.trans (hS5.mono B_14.out.size))
  have X7_19 := Lib.hid (X7_14.out.below hS5 X7_14.out.lt)
  have X12_19 := Lib.hid (X12_14.out.below hS5 X12_14.out.lt)
  have X14_19 := Lib.hid (X14_14.out.below hS5 X14_14.out.lt)
  have X17_19 := Lib.hid (X17_14.out.below hS5 X17_14.out.lt)
  have S17_19 := Lib.hid (S17_14.out.below hS5 (Nat.le_of_lt X17_14.out.lt))
  have X18_19 := Lib.hid (X18_14.out.below hS5 X18_14.out.lt)
  have N18_19 := Lib.hid ((hS5.cell (p := ⟨w11.heap.size, 2, none⟩) X18_14.out.lt).trans N18_14.out)
  clear B_14 X7_14 X12_14 X14_14 X17_14 S17_14 X18_14 N18_14
  clear hS0 hS1 hS2 hS3 hS4 hS5 hb15 hb16 hb17 hb18 hb19
  go_wp2_with fail
  refine (RcRead_any a t (by have := HTZ.out; omega) w19 (H.out.below B_19.out).rc).mono ?_
  rintro e w20 ⟨v20, x20, rfl, hev, hs20, hb20⟩
  rw [HE2.out] at hev
  rw [HR2.out] at hs20
  obtain ⟨A4, u4, rfl⟩ := hs20.v.form
  have M20 := Lib.hid hb20.size
  have M19 := Lib.hid X18_19.out.lt
  have B_20 := Lib.hid (B_19.out.trans (hb20.mono B_19.out.size))
  have X7_20 := Lib.hid (X7_19.out.below hb20 X7_19.out.lt)
  have X12_20 := Lib.hid (X12_19.out.below hb20 X12_19.out.lt)
  have X14_20 := Lib.hid (X14_19.out.below hb20 X14_19.out.lt)
  have X17_20 := Lib.hid (X17_19.out.below hb20 X17_19.out.lt)
  have S17_20 := Lib.hid (S17_19.out.below hb20 (Nat.le_of_lt X17_19.out.lt))
  have X18_20 := Lib.hid (X18_19.out.below hb20 X18_19.out.lt)
  have N18_20 := Lib.hid ((hb20.cell (p := ⟨w11.heap.size, 2, none⟩) X18_19.out.lt).trans N18_19.out)
  clear B_19 X7_19 X12_19 X14_19 X17_19 S17_19 X18_19 N18_19
  have E20_20 := Lib.hid hev
  have S20_20 := Lib.hid hs20
  clear hev hs20 hb20
  obtain ⟨c0, c1, c2, c3, hf⟩ := X12_20.out
  have f0 := hf 0
  have f1 := hf 1
  have f2 := hf 2
  have f3 := hf 3
  clear hf
  have B_21 := Lib.hid (below_set4 (b := w3.heap.size) B_20.out (by have := M7.out; have := M9.out; have := M19.out; have := M20.out; omega) (VT r2.name) (.int .i64 r2.len) (.int .u32 (r2.print : Int)) (.slice A4 r2.ids.length u4))
  have X7_21 := Lib.hid (X7_20.out.set4F (d := w3.heap.size) (by have := M7.out; have := M9.out; have := M19.out; have := M20.out; omega) (VT r2.name) (.int .i64 r2.len) (.int .u32 (r2.print : Int)) (.slice A4 r2.ids.length u4))
  have X12_21 := Lib.hid (X12_20.out.set (VT r2.name) (.int .i64 r2.len) (.int .u32 (r2.print : Int)) (.slice A4 r2.ids.length u4))
  have X14_21 := Lib.hid (X14_20.out.set4F (d := w3.heap.size) (by have := M7.out; have := M9.out; have := M19.out; have := M20.out; omega) (VT r2.name) (.int .i64 r2.len) (.int .u32 (r2.print : Int)) (.slice A4 r2.ids.length u4))
  have X17_21 := Lib.hid (X17_20.out.set4F (d := w3.heap.size) (by have := M7.out; have := M9.out; have := M19.out; have := M20.out; omega) (VT r2.name) (.int .i64 r2.len) (.int .u32 (r2.print : Int)) (.slice A4 r2.ids.length u4))
  have S17_21 := Lib.hid (S17_20.out.set4F (d := w3.heap.size) (by have := M7.out; have := M9.out; have := M19.out; have := M20.out; omega) (VT r2.name) (.int .i64 r2.len) (.int .u32 (r2.print : Int)) (.slice A4 r2.ids.length u4))
  have X18_21 := Lib.hid (X18_20.out.set4F (d := w3.heap.size) (by have := M7.out; have := M9.out; have := M19.out; have := M20.out; omega) (VT r2.name) (.int .i64 r2.len) (.int .u32 (r2.print : Int)) (.slice A4 r2.ids.length u4))
  have N18_21 := Lib.hid ((cell_set4 (b := w3.heap.size) w20 (VT r2.name) (.int .i64 r2.len) (.int .u32 (r2.print : Int)) (.slice A4 r2.ids.length u4) (p := ⟨w11.heap.size, 2, none⟩) (by show w11.heap.size ≠ w3.heap.size; have := M7.out; have := M9.out; have := M19.out; have := M20.out; omega)).trans N18_20.out)
  have E20_21 := Lib.hid (ev_set4 E20_20.out X12_20.out (VT r2.name) (.int .i64 r2.len) (.int .u32 (r2.print : Int)) (.slice A4 r2.ids.length u4))
  have S20_21 := Lib.hid (S20_20.out.set4F (d := w3.heap.size) (by have := M7.out; have := M9.out; have := M19.out; have := M20.out; omega) (VT r2.name) (.int .i64 r2.len) (.int .u32 (r2.print : Int)) (.slice A4 r2.ids.length u4))
  clear B_20 X7_20 X12_20 X14_20 X17_20 S17_20 X18_20 N18_20 E20_20 S20_20
  have Z21 : Hid (((((w20.setCell ⟨w3.heap.size, 0, none⟩ (VT r2.name)).setCell ⟨w3.heap.size, 1, none⟩ (.int .i64 r2.len)).setCell ⟨w3.heap.size, 2, none⟩ (.int .u32 (r2.print : Int))).setCell ⟨w3.heap.size, 3, none⟩ (.slice A4 r2.ids.length u4)).heap.size = w20.heap.size) := Lib.hid (size_set4 _ _ _ _ _ _)
  go_wp2_with fail
  generalize ((((w20.setCell ⟨w3.heap.size, 0, none⟩ (VT r2.name)).setCell ⟨w3.heap.size, 1, none⟩ (.int .i64 r2.len)).setCell ⟨w3.heap.size, 2, none⟩ (.int .u32 (r2.print : Int))).setCell ⟨w3.heap.size, 3, none⟩ (.slice A4 r2.ids.length u4)) = w21 at *
  clear c0 c1 c2 c3 f0 f1 f2 f3
  refine (RReadRecipe_any t (by have := HTZ.out; omega) w21).mono ?_
  rintro e w22 ⟨v22, rfl, hs22, hb22⟩
  rw [HE2.out]
  rw [HR2.out] at hs22
  obtain ⟨A5, u5, rfl⟩ := hs22.v.form
  have B_22 := Lib.hid (B_21.out.trans (hb22.mono B_21.out.size))
  have X7_22 := Lib.hid (X7_21.out.below hb22 X7_21.out.lt)
  have X12_22 := Lib.hid (X12_21.out.below hb22 X12_21.out.lt)
  have X14_22 := Lib.hid (X14_21.out.below hb22 X14_21.out.lt)
  have X17_22 := Lib.hid (X17_21.out.below hb22 X17_21.out.lt)
  have S17_22 := Lib.hid (S17_21.out.below hb22 (Nat.le_of_lt X17_21.out.lt))
  have X18_22 := Lib.hid (X18_21.out.below hb22 X18_21.out.lt)
  have N18_22 := Lib.hid ((hb22.cell (p := ⟨w11.heap.size, 2, none⟩) X18_21.out.lt).trans N18_21.out)
  have E20_22 := Lib.hid (E20_21.out.below hb22)
  have S20_22 := Lib.hid (S20_21.out.below hb22 (Nat.le_of_eq Z21.out.symm))
  clear B_21 X7_21 X12_21 X14_21 X17_21 S17_21 X18_21 N18_21 E20_21 S20_21
  have M22 := Lib.hid hb22.size
  have S22_22 := Lib.hid hs22
  clear hs22 hb22
  obtain ⟨c0, c1, c2, c3, hf⟩ := X14_22.out
  have f0 := hf 0
  have f1 := hf 1
  have f2 := hf 2
  have f3 := hf 3
  clear hf
  obtain ⟨d0, d1, g0, g1⟩ := X18_22.out
  have B_a := Lib.hid (below_set4 (b := w5.heap.size) B_22.out (by have := M7.out; have := M9.out; have := M19.out; have := M20.out; have := M22.out; have := Z21.out; omega) (VT r2.name) (.int .i64 r2.len) (.int .u32 (r2.print : Int)) (.slice A5 r2.ids.length u5))
  have X7_a := Lib.hid (X7_22.out.set4F (d := w5.heap.size) (by have := M7.out; have := M9.out; have := M19.out; have := M20.out; have := M22.out; have := Z21.out; omega) (VT r2.name) (.int .i64 r2.len) (.int .u32 (r2.print : Int)) (.slice A5 r2.ids.length u5))
  have X12_a := Lib.hid (X12_22.out.set4F (d := w5.heap.size) (by have := M7.out; have := M9.out; have := M19.out; have := M20.out; have := M22.out; have := Z21.out; omega) (VT r2.name) (.int .i64 r2.len) (.int .u32 (r2.print : Int)) (.slice A5 r2.ids.length u5))
  have X14_a := Lib.hid (X14_22.out.set (VT r2.name) (.int .i64 r2.len) (.int .u32 (r2.print : Int)) (.slice A5 r2.ids.length u5))
  have X17_a := Lib.hid (X17_22.out.set4F (d := w5.heap.size) (by have := M7.out; have := M9.out; have := M19.out; have := M20.out; have := M22.out; have := Z21.out; omega) (VT r2.name) (.int .i64 r2.len) (.int .u32 (r2.print : Int)) (.slice A5 r2.ids.length u5))
  have S17_a := Lib.hid (S17_22.out.set4F (d := w5.heap.size) (by have := M7.out; have := M9.out; have := M19.out; have := M20.out; have := M22.out; have := Z21.out; omega) (VT r2.name) (.int .i64 r2.len) (.int .u32 (r2.print : Int)) (.slice A5 r2.ids.length u5))
  have X18_a := Lib.hid (X18_22.out.set4F (d := w5.heap.size) (by have := M7.out; have := M9.out; have := M19.out; have := M20.out; have := M22.out; have := Z21.out; omega) (VT r2.name) (.int .i64 r2.len) (.int .u32 (r2.print : Int)) (.slice A5 r2.ids.length u5))
  have N18_a := Lib.hid ((cell_set4 (b := w5.heap.size) w22 (VT r2.name) (.int .i64 r2.len) (.int .u32 (r2.print : Int)) (.slice A5 r2.ids.length u5) (p := ⟨w11.heap.size, 2, none⟩) (by show w11.heap.size ≠ w5.heap.size; have := M7.out; have := M9.out; have := M19.out; have := M20.out; have := M22.out; have := Z21.out; omega)).trans N18_22.out)
  have E20_a := Lib.hid (ev_set4 E20_22.out X14_22.out (VT r2.name) (.int .i64 r2.len) (.int .u32 (r2.print : Int)) (.slice A5 r2.ids.length u5))
  have S20_a := Lib.hid (S20_22.out.set4F (d := w5.heap.size) (by have := M7.out; have := M9.out; have := M19.out; have := M20.out; have := M22.out; have := Z21.out; omega) (VT r2.name) (.int .i64 r2.len) (.int .u32 (r2.print : Int)) (.slice A5 r2.ids.length u5))
  have S22_a := Lib.hid (S22_22.out.set4F (d := w5.heap.size) (by have := M7.out; have := M9.out; have := M19.out; have := M20.out; have := M22.out; have := Z21.out; omega) (VT r2.name) (.int .i64 r2.len) (.int .u32 (r2.print : Int)) (.slice A5 r2.ids.length u5))
  clear B_22 X7_22 X12_22 X14_22 X17_22 S17_22 X18_22 N18_22 E20_22 S20_22 S22_22
  have Za : Hid (((((w22.setCell ⟨w5.heap.size, 0, none⟩ (VT r2.name)).setCell ⟨w5.heap.size, 1, none⟩ (.int .i64 r2.len)).setCell ⟨w5.heap.size, 2, none⟩ (.int .u32 (r2.print : Int))).setCell ⟨w5.heap.size, 3, none⟩ (.slice A5 r2.ids.length u5)).heap.size = w22.heap.size) := Lib.hid (size_set4 _ _ _ _ _ _)
  generalize hwa : ((((w22.setCell ⟨w5.heap.size, 0, none⟩ (VT r2.name)).setCell ⟨w5.heap.size, 1, none⟩ (.int .i64 r2.len)).setCell ⟨w5.heap.size, 2, none⟩ (.int .u32 (r2.print : Int))).setCell ⟨w5.heap.size, 3, none⟩ (.slice A5 r2.ids.length u5)) = wa at *
  have HWA := Lib.hid hwa
  clear hwa
  have B_23 := Lib.hid (below_set2 (b := w11.heap.size) B_a.out (by have := M7.out; have := M9.out; have := M19.out; have := M20.out; have := M22.out; have := Z21.out; omega) (.int .i64 k2) (.int .i64 p2))
  have X7_23 := Lib.hid (X7_a.out.set2F (d := w11.heap.size) (by have := M7.out; have := M9.out; have := M19.out; have := M20.out; have := M22.out; have := Z21.out; omega) (.int .i64 k2) (.int .i64 p2))
  have X12_23 := Lib.hid (X12_a.out.set2F (d := w11.heap.size) (by have := M7.out; have := M9.out; have := M19.out; have := M20.out; have := M22.out; have := Z21.out; omega) (.int .i64 k2) (.int .i64 p2))
  have X14_23 := Lib.hid (X14_a.out.set2F (d := w11.heap.size) (by have := M7.out; have := M9.out; have := M19.out; have := M20.out; have := M22.out; have := Z21.out; omega) (.int .i64 k2) (.int .i64 p2))
  have X17_23 := Lib.hid (X17_a.out.set2F (d := w11.heap.size) (by have := M7.out; have := M9.out; have := M19.out; have := M20.out; have := M22.out; have := Z21.out; omega) (.int .i64 k2) (.int .i64 p2))
  have S17_23 := Lib.hid (S17_a.out.set2F (d := w11.heap.size) (by have := M7.out; have := M9.out; have := M19.out; have := M20.out; have := M22.out; have := Z21.out; omega) (.int .i64 k2) (.int .i64 p2))
  have X18_23 := Lib.hid (X18_a.out.set (.int .i64 k2) (.int .i64 p2))
  have E20_23 := Lib.hid (ev_set2 E20_a.out X18_a.out N18_a.out (.int .i64 k2) (.int .i64 p2))
  have S20_23 := Lib.hid (S20_a.out.set2F (d := w11.heap.size) (by have := M7.out; have := M9.out; have := M19.out; have := M20.out; have := M22.out; have := Z21.out; omega) (.int .i64 k2) (.int .i64 p2))
  have S22_23 := Lib.hid (S22_a.out.set2F (d := w11.heap.size) (by have := M7.out; have := M9.out; have := M19.out; have := M20.out; have := M22.out; have := Z21.out; omega) (.int .i64 k2) (.int .i64 p2))
  clear B_a X7_a X12_a X14_a X17_a S17_a X18_a E20_a S20_a S22_a
  have N18_23 : Hid (((wa.setCell ⟨w11.heap.size, 0, none⟩ (.int .i64 k2)).setCell ⟨w11.heap.size, 1, none⟩ (.int .i64 p2)).cell? ⟨w11.heap.size, 2, none⟩ = none) := Lib.hid (cell2_keep N18_a.out _ _)
  clear N18_a
  have Z23 : Hid (((wa.setCell ⟨w11.heap.size, 0, none⟩ (.int .i64 k2)).setCell ⟨w11.heap.size, 1, none⟩ (.int .i64 p2)).heap.size = wa.heap.size) := Lib.hid (by simp [World.setCell])
  obtain ⟨x0, x1, x2, x3, _⟩ := X12_23.out
  obtain ⟨y0, y1, y2, y3, _⟩ := X14_23.out
  have HW23 : Hid (((((((w22.setCell ⟨w5.heap.size, 0, none⟩ (VT r2.name)).setCell ⟨w5.heap.size, 1, none⟩ (.int .i64 r2.len)).setCell ⟨w5.heap.size, 2, none⟩ (.int .u32 (r2.print : Int))).setCell ⟨w5.heap.size, 3, none⟩ (.slice A5 r2.ids.length u5)).setCell ⟨w11.heap.size, 0, none⟩ (.int .i64 k2)).setCell ⟨w11.heap.size, 1, none⟩ (.int .i64 p2)) = ((wa.setCell ⟨w11.heap.size, 0, none⟩ (.int .i64 k2)).setCell ⟨w11.heap.size, 1, none⟩ (.int .i64 p2))) := Lib.hid (by rw [HWA.out])
  rw [← HWA.out] at x0 x1 x2 x3 y0 y1 y2 y3
  have SM := Lib.hid (SameRecipe_same (.agg #[VT r2.name, .int .i64 r2.len, .int .u32 (r2.print : Int), .slice A4 r2.ids.length u4]) (.agg #[VT r2.name, .int .i64 r2.len, .int .u32 (r2.print : Int), .slice A5 r2.ids.length u5]) r2 HRV.out ((wa.setCell ⟨w11.heap.size, 0, none⟩ (.int .i64 k2)).setCell ⟨w11.heap.size, 1, none⟩ (.int .i64 p2)) (S20_23.out.v.more (by rw [Z23.out, Za.out]; have := M22.out; have := Z21.out; omega)) (S22_23.out.v.more (by rw [Z23.out, Za.out]; exact Nat.le_refl _)))
  have na0 : ¬ (w3.heap.size = w5.heap.size) := by have := M7.out; have := M9.out; have := M19.out; have := M20.out; have := M22.out; have := Z21.out; omega
  have nb0 : ¬ (w5.heap.size = w3.heap.size) := by have := M7.out; have := M9.out; have := M19.out; have := M20.out; have := M22.out; have := Z21.out; omega
  have na1 : ¬ (w3.heap.size = w11.heap.size) := by have := M7.out; have := M9.out; have := M19.out; have := M20.out; have := M22.out; have := Z21.out; omega
  have nb1 : ¬ (w11.heap.size = w3.heap.size) := by have := M7.out; have := M9.out; have := M19.out; have := M20.out; have := M22.out; have := Z21.out; omega
  have na2 : ¬ (w5.heap.size = w11.heap.size) := by have := M7.out; have := M9.out; have := M19.out; have := M20.out; have := M22.out; have := Z21.out; omega
  have nb2 : ¬ (w11.heap.size = w5.heap.size) := by have := M7.out; have := M9.out; have := M19.out; have := M20.out; have := M22.out; have := Z21.out; omega
  go_wp2_with fail
  clear na0 na1 na2 nb0 nb1 nb2
  rw [HW23.out]
  generalize ((wa.setCell ⟨w11.heap.size, 0, none⟩ (.int .i64 k2)).setCell ⟨w11.heap.size, 1, none⟩ (.int .i64 p2)) = w23 at *
  clear x0 x1 x2 x3 y0 y1 y2 y3 c0 c1 c2 c3 f0 f1 f2 f3 d0 d1 g0 g1
  refine SM.out.mono ?_
  rintro e w24 ⟨rfl, hb24⟩
  clear SM S20_23 S22_23
  have B_24 := Lib.hid (B_23.out.trans (hb24.mono B_23.out.size))
  have X7_24 := Lib.hid (X7_23.out.below hb24 X7_23.out.lt)
  have X12_24 := Lib.hid (X12_23.out.below hb24 X12_23.out.lt)
  have X14_24 := Lib.hid (X14_23.out.below hb24 X14_23.out.lt)
  have X17_24 := Lib.hid (X17_23.out.below hb24 X17_23.out.lt)
  have S17_24 := Lib.hid (S17_23.out.below hb24 (Nat.le_of_lt X17_23.out.lt))
  have X18_24 := Lib.hid (X18_23.out.below hb24 X18_23.out.lt)
  have N18_24 := Lib.hid ((hb24.cell (p := ⟨w11.heap.size, 2, none⟩) X18_23.out.lt).trans N18_23.out)
  have E20_24 := Lib.hid (E20_23.out.below hb24)
  clear B_23 X7_23 X12_23 X14_23 X17_23 S17_23 X18_23 N18_23 E20_23
  clear hb24
  have FT := Lib.hid (faulted1_any a x20 k2 p2 k2 p2 w24 (H.out.below B_24.out).s (evErrV E20_24.out (H.out.below B_24.out).s))
  rw [faulted_yes] at FT
  obtain ⟨d0, d1, _, _⟩ := X18_24.out
  go_wp2_with fail
  refine FT.out.mono ?_
  rintro e w25 ⟨rfl, hb25⟩
  clear FT d0 d1 E20_24
  have B_25 := Lib.hid (B_24.out.trans (hb25.mono B_24.out.size))
  have X7_25 := Lib.hid (X7_24.out.below hb25 X7_24.out.lt)
  have X12_25 := Lib.hid (X12_24.out.below hb25 X12_24.out.lt)
  have X14_25 := Lib.hid (X14_24.out.below hb25 X14_24.out.lt)
  have X17_25 := Lib.hid (X17_24.out.below hb25 X17_24.out.lt)
  have S17_25 := Lib.hid (S17_24.out.below hb25 (Nat.le_of_lt X17_24.out.lt))
  have X18_25 := Lib.hid (X18_24.out.below hb25 X18_24.out.lt)
  have N18_25 := Lib.hid ((hb25.cell (p := ⟨w11.heap.size, 2, none⟩) X18_24.out.lt).trans N18_24.out)
  clear B_24 X7_24 X12_24 X14_24 X17_24 S17_24 X18_24 N18_24
  clear hb25
  go_wp2
  go_loopg [21] ls.length (fun gh vi wr => ∃ k : Nat, vi = .int .i64 k ∧ k ≤ ls.length ∧ gh = ls.length - k ∧ (∀ p ∈ ls.take k, p.length ≤ 100) ∧ w25 = wr)
  case atStart => exact ⟨0, rfl, Nat.zero_le _, rfl, (fun p hp => by rw [List.take_zero] at hp; cases hp), rfl⟩
  case round =>
    obtain ⟨k, rfl, hk, hgm, hall, rfl⟩ := hrel
    have HALL := Lib.hid hall
    clear hall
    by_cases hkl : k < ls.length
    · obtain ⟨gl, ol, rfl, hgl, hxl⟩ := HLX.out (by intro e; have := congrArg List.length e; rw [List.length_map] at this; simp at this; rw [this] at hkl; exact absurd hkl (Nat.not_lt_zero _))
      have z0 : w.cell? ⟨gl, ol + k, none⟩ = some (.string (bs ls[k])) := hxl k _ (by simp [hkl])
      have z1 := (B_25.out.cell (p := ⟨gl, ol + k, none⟩) hgl).trans z0
      have b1 : (0 : Int) ≤ (k : Int) := by omega
      have b2 : (k : Int) < (ls.length : Int) := by omega
      have HBZ := Lib.hid (bs_size ls[k])
      clear hxl z0
      by_cases hlong : 100 < (bs ls[k]).size
      · have hli : ((bs ls[k]).size : Int) > 100 := by omega
        go_wp2
        go_ret
        exact ⟨rfl, B_25.out⟩
      · have hli : ¬ ((bs ls[k]).size : Int) > 100 := by omega
        have HN : Hid (∀ p ∈ ls.take (k + 1), p.length ≤ 100) := Lib.hid (fun p hp => by
          rw [List.take_succ_eq_append_getElem hkl, List.mem_append] at hp
          rcases hp with hp | hp
          · exact HALL.out p hp
          · rw [List.mem_singleton] at hp; rw [hp, ← HBZ.out]; omega)
        clear hlong
        go_wp2
        go_roundg (ls.length - (k + 1))
        case measure => omega
        case rel => exact ⟨k + 1, by go_num, hkl, rfl, HN.out, rfl⟩
    · obtain rfl : k = ls.length := by omega
      have HSZ : Hid (∀ p ∈ ls, p.length ≤ 1000000) := Lib.hid (fun p hp => by have := HALL.out p (by rw [List.take_length]; exact hp); omega)
      clear HALL
      obtain ⟨c0, c1, c2, c3, _⟩ := X17_25.out
      have JN := Lib.hid (RcJoin_any a _ (.slice Al ls.length cl) r HRB.out ls (by have := HLL.out; omega) HSZ.out w25 ((S17_25.out.v.more (Nat.le_of_lt X17_25.out.lt))) ((HL.out.below B_25.out).more B_25.out.size) (H.out.below B_25.out).five)
      go_wp2_with fail
      refine JN.out.mono ?_
      rintro e w26 ⟨x26, rfl, hev, hb26⟩
      clear c0 c1 c2 c3 JN
      have B_26 := Lib.hid (B_25.out.trans (hb26.mono B_25.out.size))
      have X7_26 := Lib.hid (X7_25.out.below hb26 X7_25.out.lt)
      have X12_26 := Lib.hid (X12_25.out.below hb26 X12_25.out.lt)
      have X14_26 := Lib.hid (X14_25.out.below hb26 X14_25.out.lt)
      have X17_26 := Lib.hid (X17_25.out.below hb26 X17_25.out.lt)
      have S17_26 := Lib.hid (S17_25.out.below hb26 (Nat.le_of_lt X17_25.out.lt))
      have X18_26 := Lib.hid (X18_25.out.below hb26 X18_25.out.lt)
      have N18_26 := Lib.hid ((hb26.cell (p := ⟨w11.heap.size, 2, none⟩) X18_25.out.lt).trans N18_25.out)
      clear B_25 X7_25 X12_25 X14_25 X17_25 S17_25 X18_25 N18_25
      have E26_26 := Lib.hid hev
      clear hev hb26
      obtain ⟨c0, c1, c2, c3, _⟩ := X7_26.out
      have JR := Lib.hid (RJoinOf_any _ (.slice Al ls.length cl) r HRB.out ls (by have := HLL.out; omega) HSZ.out w26 ((HV.out.below B_26.out)) ((HL.out.below B_26.out).more B_26.out.size))
      go_wp2_with fail
      refine JR.out.mono ?_
      rintro e w27 ⟨rfl, hb27⟩
      clear c0 c1 c2 c3 JR
      have B_27 := Lib.hid (B_26.out.trans (hb27.mono B_26.out.size))
      have X7_27 := Lib.hid (X7_26.out.below hb27 X7_26.out.lt)
      have X12_27 := Lib.hid (X12_26.out.below hb27 X12_26.out.lt)
      have X14_27 := Lib.hid (X14_26.out.below hb27 X14_26.out.lt)
      have X17_27 := Lib.hid (X17_26.out.below hb27 X17_26.out.lt)
      have S17_27 := Lib.hid (S17_26.out.below hb27 (Nat.le_of_lt X17_26.out.lt))
      have X18_27 := Lib.hid (X18_26.out.below hb27 X18_26.out.lt)
      have N18_27 := Lib.hid ((hb27.cell (p := ⟨w11.heap.size, 2, none⟩) X18_26.out.lt).trans N18_26.out)
      have E26_27 := Lib.hid (E26_26.out.below hb27)
      clear B_26 X7_26 X12_26 X14_26 X17_26 S17_26 X18_26 N18_26 E26_26
      clear hb27
      generalize joinRes r ls = j at *
      obtain ⟨jt, jc, jp⟩ := j
      obtain ⟨d0, d1, g0, g1⟩ := X18_27.out
      have B_28 := Lib.hid (below_set2 (b := w11.heap.size) B_27.out (by have := M7.out; have := M9.out; omega) (.int .i64 jc) (.int .i64 jp))
      have X7_28 := Lib.hid (X7_27.out.set2F (d := w11.heap.size) (by have := M7.out; have := M9.out; omega) (.int .i64 jc) (.int .i64 jp))
      have X12_28 := Lib.hid (X12_27.out.set2F (d := w11.heap.size) (by have := M7.out; have := M9.out; omega) (.int .i64 jc) (.int .i64 jp))
      have X14_28 := Lib.hid (X14_27.out.set2F (d := w11.heap.size) (by have := M7.out; have := M9.out; omega) (.int .i64 jc) (.int .i64 jp))
      have X17_28 := Lib.hid (X17_27.out.set2F (d := w11.heap.size) (by have := M7.out; have := M9.out; omega) (.int .i64 jc) (.int .i64 jp))
      have S17_28 := Lib.hid (S17_27.out.set2F (d := w11.heap.size) (by have := M7.out; have := M9.out; omega) (.int .i64 jc) (.int .i64 jp))
      have X18_28 := Lib.hid (X18_27.out.set (.int .i64 jc) (.int .i64 jp))
      have E26_28 := Lib.hid (ev_set2 E26_27.out X18_27.out N18_27.out (.int .i64 jc) (.int .i64 jp))
      clear B_27 X7_27 X12_27 X14_27 X17_27 S17_27 X18_27 E26_27
      have hnm := HNZ.out
      go_wp2_with fail
      generalize ((w27.setCell ⟨w11.heap.size, 0, none⟩ (.int .i64 jc)).setCell ⟨w11.heap.size, 1, none⟩ (.int .i64 jp)) = w28 at *
      clear d0 d1 g0 g1 N18_27
      refine (RIsName_any n (by omega) w28).mono ?_
      rintro e w29 ⟨rfl, hw29⟩
      have hb29 : Below w28.heap.size w28 w29 := by rw [← hw29]; exact Below.refl _ _
      have B_29 := Lib.hid (B_28.out.trans (hb29.mono B_28.out.size))
      have X7_29 := Lib.hid (X7_28.out.below hb29 X7_28.out.lt)
      have X12_29 := Lib.hid (X12_28.out.below hb29 X12_28.out.lt)
      have X14_29 := Lib.hid (X14_28.out.below hb29 X14_28.out.lt)
      have X17_29 := Lib.hid (X17_28.out.below hb29 X17_28.out.lt)
      have S17_29 := Lib.hid (S17_28.out.below hb29 (Nat.le_of_lt X17_28.out.lt))
      have X18_29 := Lib.hid (X18_28.out.below hb29 X18_28.out.lt)
      have E26_29 := Lib.hid (E26_28.out.below hb29)
      clear B_28 X7_28 X12_28 X14_28 X17_28 S17_28 X18_28 E26_28
      clear hb29 hw29
      have FT := Lib.hid (faulted1_any a x26 jc jp jc jp w29 (H.out.below B_29.out).s (evErrV E26_29.out (H.out.below B_29.out).s))
      rw [faulted_yes] at FT
      obtain ⟨d0, d1, _, _⟩ := X18_29.out
      go_wp2_with fail
      refine FT.out.mono ?_
      rintro e w30 ⟨rfl, hb30⟩
      have B_30 := Lib.hid (B_29.out.trans (hb30.mono B_29.out.size))
      have X7_30 := Lib.hid (X7_29.out.below hb30 X7_29.out.lt)
      have X12_30 := Lib.hid (X12_29.out.below hb30 X12_29.out.lt)
      have X14_30 := Lib.hid (X14_29.out.below hb30 X14_29.out.lt)
      have X17_30 := Lib.hid (X17_29.out.below hb30 X17_29.out.lt)
      have S17_30 := Lib.hid (S17_29.out.below hb30 (Nat.le_of_lt X17_29.out.lt))
      have X18_30 := Lib.hid (X18_29.out.below hb30 X18_29.out.lt)
      have E26_30 := Lib.hid (E26_29.out.below hb30)
      clear B_29 X7_29 X12_29 X14_29 X17_29 S17_29 X18_29 E26_29
      clear hb30 d0 d1
      go_wp2_with fail
      refine (RcName_any n (by omega) w30).mono ?_
      rintro e w31 ⟨rfl, hb31⟩
      have B_31 := Lib.hid (B_30.out.trans (hb31.mono B_30.out.size))
      have X7_31 := Lib.hid (X7_30.out.below hb31 X7_30.out.lt)
      have X12_31 := Lib.hid (X12_30.out.below hb31 X12_30.out.lt)
      have X14_31 := Lib.hid (X14_30.out.below hb31 X14_30.out.lt)
      have X17_31 := Lib.hid (X17_30.out.below hb31 X17_30.out.lt)
      have S17_31 := Lib.hid (S17_30.out.below hb31 (Nat.le_of_lt X17_30.out.lt))
      have X18_31 := Lib.hid (X18_30.out.below hb31 X18_30.out.lt)
      have E26_31 := Lib.hid (E26_30.out.below hb31)
      clear B_30 X7_30 X12_30 X14_30 X17_30 S17_30 X18_30 E26_30
      clear hb31
      go_wp2
      go_ret
      exact ⟨by simp, B_31.out⟩
set_option maxRecDepth 100000 in
set_option maxHeartbeats 16000000 in
theorem RcTl_A1 (a : Nat → Addr) (n s : ByteArray) (v : Value) (r : Rcp) (t : ByteArray) (lv : Value) (ls : List Bytes) (h1 : ¬ 30 < n.size) (h2 : ¬ 1500 < s.size) (h4 : longR r = 0) (h5 : ¬ 1500 < t.size) (h6 : ¬ 60 < ls.length) (hf : (rcpFault r).1 ≠ 0) (hn : n.size ≤ maxLen) (w : World) (hv : RcpV w w.heap.size v r) (ho : RcpO r) (hl : Rd w w.heap.size lv (ls.map VT)) (h : RbW a w) :
    Calls Tryz.prog 5 #[.string n, .string s, v, .string t, lv] w fun e w' => e = .returned (.bool true) ∧ Below w.heap.size w w' := by
  obtain ⟨A, c, rfl⟩ := hv.form
  have hl0 := hl
  obtain ⟨Al, cl, hlv, hcl, hcx⟩ := hl
  rw [List.length_map] at hlv hcl
  subst hlv
  have hb0 : Below w.heap.size w (w.alloc (.cells #[VT r.name, .int .i64 r.len, .int .u32 (r.print : Int), .slice A r.ids.length c] 36)) := (Below.refl _ w).alloc (Nat.le_refl _) _
  have hx7 : Box4 w.heap.size (VT r.name) (.int .i64 r.len) (.int .u32 (r.print : Int)) (.slice A r.ids.length c) (w.alloc (.cells #[VT r.name, .int .i64 r.len, .int .u32 (r.print : Int), .slice A r.ids.length c] 36)) := Box4.mk' _ _ _ _ _ _
  have CO := Lib.hid (cooked_any a (w.alloc (.cells #[VT r.name, .int .i64 r.len, .int .u32 (r.print : Int), .slice A r.ids.length c] 36)) (h.below hb0))
  have B_0 := Lib.hid hb0
  have X7_0 := Lib.hid hx7
  have HV := Lib.hid hv
  have H := Lib.hid h
  have HRN := Lib.hid ho.n
  have HRC := Lib.hid ho.c
  have HLR := Lib.hid h4
  have HRB : Hid (RcpB r) := Lib.hid ⟨by have := (longR_zero h4).1; omega, ho.l0, ho.l1, ho.p, by have := (longR_zero h4).2; omega, ho.i⟩
  have HL : Hid (Rd w w.heap.size (.slice Al ls.length cl) (ls.map VT)) := Lib.hid hl0
  have HLX := Lib.hid hcx
  have HLL : Hid (ls.length ≤ 60) := Lib.hid (by omega)
  have HTZ : Hid (t.size ≤ 1500) := Lib.hid (by omega)
  have HNZ : Hid (n.size ≤ 30) := Lib.hid (by omega)
  have HO1 := Lib.hid (ofRes_len n.data.toList s.data.toList)
  have HRV : Hid ((readVal t.data.toList).ids.length ≤ 1000000) := Lib.hid (readVal_len _ (by rw [← size_toList]; omega))
  have HOF := Lib.hid (fun w1 (hs : SomeS [1, 3] a w1) => RcOf_any a n s hn w1 hs)
  have HROF := Lib.hid (fun w1 => RRecipeOf_any n s hn w1)
  have h1i : ¬ (n.size : Int) > 30 := by omega
  have h2i : ¬ (s.size : Int) > 1500 := by omega
  have h5i : ¬ (t.size : Int) > 1500 := by omega
  have h6i : ¬ (ls.length : Int) > 60 := by omega
  have HTX : Hid (textRes r = []) := Lib.hid (if_neg hf)
  have hfi : ((rcpFault r).1 == 0) = false := by simpa using hf
  have HFI := Lib.hid hfi
  clear hfi
  clear h1 h2 h4 h5 h6 hf hb0 hx7 h ho hcx hv hn hl0
  generalize hf1 : ofRes n.data.toList s.data.toList = f1 at *
  clear hf1
  obtain ⟨k1, r1⟩ := f1
  generalize hr2 : readVal t.data.toList = r2 at *
  generalize he2 : readErr t.data.toList = e2 at *
  have HR2 := Lib.hid hr2
  have HE2 := Lib.hid he2
  clear hr2 he2
  obtain ⟨k2, p2⟩ := e2
  go_enter Tryz.func5, Tryz.ntmps5
  go_wp2_with fail
  refine CO.out.mono ?_
  rintro e w1 ⟨rfl, hb1⟩
  have B_1 := Lib.hid (B_0.out.trans (hb1.mono B_0.out.size))
  have X7_1 := Lib.hid (X7_0.out.below hb1 X7_0.out.lt)
  clear B_0 X7_0
  clear hb1 CO
  obtain ⟨c0, c1, c2, c3, _⟩ := X7_1.out
  go_wp2_with fail
  refine (LongRecipe_any _ r HRN.out HRC.out _ w1 ((HV.out.below B_1.out))).mono ?_
  rintro e w2 ⟨rfl, hb2⟩
  rw [HLR.out]
  clear c0 c1 c2 c3
  have B_2 := Lib.hid (B_1.out.trans (hb2.mono B_1.out.size))
  have X7_2 := Lib.hid (X7_1.out.below hb2 X7_1.out.lt)
  clear B_1 X7_1
  clear hb2
  go_wp2_with fail
  refine (HOF.out w2 (H.out.below B_2.out).two).mono ?_
  rintro e w3 ⟨v3, x3, rfl, hev, hv3, hb3⟩
  obtain ⟨A1, u1, rfl⟩ := hv3.form
  have B_3 := Lib.hid (B_2.out.trans (hb3.mono B_2.out.size))
  have X7_3 := Lib.hid (X7_2.out.below hb3 X7_2.out.lt)
  clear B_2 X7_2
  have Ma := Lib.hid X7_3.out.lt
  have ha4 := (Below.refl w3.heap.size w3).alloc (Nat.le_refl _) (.cells #[VT r1.name, .int .i64 r1.len, .int .u32 (r1.print : Int), .slice A1 r1.ids.length u1] 36)
  have E3_3 := Lib.hid hev
  have B_4 := Lib.hid (B_3.out.trans (ha4.mono B_3.out.size))
  have X7_4 := Lib.hid (X7_3.out.below ha4 X7_3.out.lt)
  have E3_4 := Lib.hid (E3_3.out.below ha4)
  clear B_3 X7_3 E3_3
  have X12_4 : Hid (Box4 w3.heap.size (VT r1.name) (.int .i64 r1.len) (.int .u32 (r1.print : Int)) (.slice A1 r1.ids.length u1) (w3.alloc (.cells #[VT r1.name, .int .i64 r1.len, .int .u32 (r1.print : Int), .slice A1 r1.ids.length u1] 36))) := Lib.hid (Box4.mk' _ _ _ _ _ _)
  have V1_4 := Lib.hid (hv3.below ha4)
  clear hev hv3 hb3 ha4
  go_wp2_with fail
  generalize (w3.alloc (.cells #[VT r1.name, .int .i64 r1.len, .int .u32 (r1.print : Int), .slice A1 r1.ids.length u1] 36)) = w4 at *
  refine (HROF.out w4).mono ?_
  rintro e w5 ⟨v5, rfl, hv5, hb5⟩
  obtain ⟨A2, u2, rfl⟩ := hv5.form
  have B_5 := Lib.hid (B_4.out.trans (hb5.mono B_4.out.size))
  have X7_5 := Lib.hid (X7_4.out.below hb5 X7_4.out.lt)
  have E3_5 := Lib.hid (E3_4.out.below hb5)
  have X12_5 := Lib.hid (X12_4.out.below hb5 X12_4.out.lt)
  have V1_5 := Lib.hid (V1_4.out.below hb5)
  clear B_4 X7_4 E3_4 X12_4 V1_4
  have Mb := Lib.hid X12_5.out.lt
  have ha6 := (Below.refl w5.heap.size w5).alloc (Nat.le_refl _) (.cells #[VT r1.name, .int .i64 r1.len, .int .u32 (r1.print : Int), .slice A2 r1.ids.length u2] 36)
  have B_6 := Lib.hid (B_5.out.trans (ha6.mono B_5.out.size))
  have X7_6 := Lib.hid (X7_5.out.below ha6 X7_5.out.lt)
  have E3_6 := Lib.hid (E3_5.out.below ha6)
  have X12_6 := Lib.hid (X12_5.out.below ha6 X12_5.out.lt)
  have V1_6 := Lib.hid (V1_5.out.below ha6)
  clear B_5 X7_5 E3_5 X12_5 V1_5
  have X14_6 : Hid (Box4 w5.heap.size (VT r1.name) (.int .i64 r1.len) (.int .u32 (r1.print : Int)) (.slice A2 r1.ids.length u2) (w5.alloc (.cells #[VT r1.name, .int .i64 r1.len, .int .u32 (r1.print : Int), .slice A2 r1.ids.length u2] 36))) := Lib.hid (Box4.mk' _ _ _ _ _ _)
  have SM := Lib.hid (SameRecipe_same _ _ r1 HO1.out (w5.alloc (.cells #[VT r1.name, .int .i64 r1.len, .int .u32 (r1.print : Int), .slice A2 r1.ids.length u2] 36)) V1_6.out (hv5.below ha6))
  clear hv5 hb5 ha6 V1_6
  obtain ⟨c0, c1, c2, c3, _⟩ := X12_6.out
  obtain ⟨d0, d1, d2, d3, _⟩ := X14_6.out
  go_wp2_with fail
  generalize (w5.alloc (.cells #[VT r1.name, .int .i64 r1.len, .int .u32 (r1.print : Int), .slice A2 r1.ids.length u2] 36)) = w6 at *
  refine SM.out.mono ?_
  rintro e w7 ⟨rfl, hb7⟩
  clear c0 c1 c2 c3 d0 d1 d2 d3
  have B_7 := Lib.hid (B_6.out.trans (hb7.mono B_6.out.size))
  have X7_7 := Lib.hid (X7_6.out.below hb7 X7_6.out.lt)
  have E3_7 := Lib.hid (E3_6.out.below hb7)
  have X12_7 := Lib.hid (X12_6.out.below hb7 X12_6.out.lt)
  have X14_7 := Lib.hid (X14_6.out.below hb7 X14_6.out.lt)
  clear B_6 X7_6 E3_6 X12_6 X14_6
  clear hb7 SM
  have CD := Lib.hid (coded1_any a x3 k1 k1 (-1) w7 (H.out.below B_7.out).s (evErrV E3_7.out (H.out.below B_7.out).s))
  rw [coded_yes] at CD
  clear E3_7
  go_wp2_with fail
  refine CD.out.mono ?_
  rintro e w8 ⟨rfl, hb8⟩
  have B_8 := Lib.hid (B_7.out.trans (hb8.mono B_7.out.size))
  have X7_8 := Lib.hid (X7_7.out.below hb8 X7_7.out.lt)
  have X12_8 := Lib.hid (X12_7.out.below hb8 X12_7.out.lt)
  have X14_8 := Lib.hid (X14_7.out.below hb8 X14_7.out.lt)
  clear B_7 X7_7 X12_7 X14_7
  have Mc := Lib.hid X14_8.out.lt
  clear hb8 CD
  obtain ⟨c0, c1, c2, c3, _⟩ := X7_8.out
  go_wp2_with fail
  refine (OwnRecipe_any _ r HRB.out.c w8 ((HV.out.below B_8.out))).mono ?_
  rintro e w9 ⟨v9, rfl, hs9, hb9⟩
  obtain ⟨A3, u3, rfl⟩ := hs9.v.form
  clear c0 c1 c2 c3
  have B_9 := Lib.hid (B_8.out.trans (hb9.mono B_8.out.size))
  have X7_9 := Lib.hid (X7_8.out.below hb9 X7_8.out.lt)
  have X12_9 := Lib.hid (X12_8.out.below hb9 X12_8.out.lt)
  have X14_9 := Lib.hid (X14_8.out.below hb9 X14_8.out.lt)
  clear B_8 X7_8 X12_8 X14_8
  have ha10 := (Below.refl w9.heap.size w9).alloc (Nat.le_refl _) (.cells #[VT r.name, .int .i64 r.len, .int .u32 (r.print : Int), .slice A3 r.ids.length u3] 36)
  have B_10 := Lib.hid (B_9.out.trans (ha10.mono B_9.out.size))
  have X7_10 := Lib.hid (X7_9.out.below ha10 X7_9.out.lt)
  have X12_10 := Lib.hid (X12_9.out.below ha10 X12_9.out.lt)
  have X14_10 := Lib.hid (X14_9.out.below ha10 X14_9.out.lt)
  clear B_9 X7_9 X12_9 X14_9
  have X17_10 : Hid (Box4 w9.heap.size (VT r.name) (.int .i64 r.len) (.int .u32 (r.print : Int)) (.slice A3 r.ids.length u3) (w9.alloc (.cells #[VT r.name, .int .i64 r.len, .int .u32 (r.print : Int), .slice A3 r.ids.length u3] 36))) := Lib.hid (Box4.mk' _ _ _ _ _ _)
  have S17_10 := Lib.hid (hs9.below ha10 (Nat.le_refl _))
  have M9 := Lib.hid hb9.size
  clear hs9 hb9 ha10
  obtain ⟨c0, c1, c2, c3, _⟩ := X7_10.out
  go_wp2_with fail
  generalize (w9.alloc (.cells #[VT r.name, .int .i64 r.len, .int .u32 (r.print : Int), .slice A3 r.ids.length u3] 36)) = w10 at *
  refine (RRecipeFault_any _ r HRB.out w10 ((HV.out.below B_10.out))).mono ?_
  rintro e w11 ⟨rfl, hb11⟩
  clear c0 c1 c2 c3
  have B_11 := Lib.hid (B_10.out.trans (hb11.mono B_10.out.size))
  have X7_11 := Lib.hid (X7_10.out.below hb11 X7_10.out.lt)
  have X12_11 := Lib.hid (X12_10.out.below hb11 X12_10.out.lt)
  have X14_11 := Lib.hid (X14_10.out.below hb11 X14_10.out.lt)
  have X17_11 := Lib.hid (X17_10.out.below hb11 X17_10.out.lt)
  have S17_11 := Lib.hid (S17_10.out.below hb11 (Nat.le_of_lt X17_10.out.lt))
  clear B_10 X7_10 X12_10 X14_10 X17_10 S17_10
  have M7 : Hid (w.heap.size < w3.heap.size ∧ w3.heap.size < w5.heap.size ∧ w5.heap.size < w8.heap.size ∧ w9.heap.size < w11.heap.size) := Lib.hid ⟨Ma.out, Mb.out, Mc.out, X17_11.out.lt⟩
  clear Ma Mb Mc
  have ha12 := (Below.refl w11.heap.size w11).alloc (Nat.le_refl _) (.cells #[.int .i64 (rcpFault r).1, .int .i64 (rcpFault r).2] 49)
  have B_12 := Lib.hid (B_11.out.trans (ha12.mono B_11.out.size))
  have X7_12 := Lib.hid (X7_11.out.below ha12 X7_11.out.lt)
  have X12_12 := Lib.hid (X12_11.out.below ha12 X12_11.out.lt)
  have X14_12 := Lib.hid (X14_11.out.below ha12 X14_11.out.lt)
  have X17_12 := Lib.hid (X17_11.out.below ha12 X17_11.out.lt)
  have S17_12 := Lib.hid (S17_11.out.below ha12 (Nat.le_of_lt X17_11.out.lt))
  clear B_11 X7_11 X12_11 X14_11 X17_11 S17_11
  have X18_12 : Hid (Box2 w11.heap.size (.int .i64 (rcpFault r).1) (.int .i64 (rcpFault r).2) (w11.alloc (.cells #[.int .i64 (rcpFault r).1, .int .i64 (rcpFault r).2] 49))) := Lib.hid (Box2.mk' _ _ _ _)
  have N18_12 : Hid ((w11.alloc (.cells #[.int .i64 (rcpFault r).1, .int .i64 (rcpFault r).2] 49)).cell? ⟨w11.heap.size, 2, none⟩ = none) := Lib.hid (by rw [World.cell?_alloc_at _ _ _ _ rfl]; rfl)
  clear hb11 ha12
  obtain ⟨c0, c1, c2, c3, _⟩ := X17_12.out
  have TX := Lib.hid (RcText_any a _ r HRB.out _ ((S17_12.out.v.more (Nat.le_of_lt X17_12.out.lt))) (H.out.below B_12.out).five (H.out.below B_12.out).t)
  go_wp2_with fail
  generalize (w11.alloc (.cells #[.int .i64 (rcpFault r).1, .int .i64 (rcpFault r).2] 49)) = w12 at *
  refine TX.out.mono ?_
  rintro e w13 ⟨x13, rfl, hev, hb13⟩
  clear c0 c1 c2 c3
  have B_13 := Lib.hid (B_12.out.trans (hb13.mono B_12.out.size))
  have X7_13 := Lib.hid (X7_12.out.below hb13 X7_12.out.lt)
  have X12_13 := Lib.hid (X12_12.out.below hb13 X12_12.out.lt)
  have X14_13 := Lib.hid (X14_12.out.below hb13 X14_12.out.lt)
  have X17_13 := Lib.hid (X17_12.out.below hb13 X17_12.out.lt)
  have S17_13 := Lib.hid (S17_12.out.below hb13 (Nat.le_of_lt X17_12.out.lt))
  have X18_13 := Lib.hid (X18_12.out.below hb13 X18_12.out.lt)
  have N18_13 := Lib.hid ((hb13.cell (p := ⟨w11.heap.size, 2, none⟩) X18_12.out.lt).trans N18_12.out)
  clear B_12 X7_12 X12_12 X14_12 X17_12 S17_12 X18_12 N18_12
  have E13_13 := Lib.hid hev
  clear hev hb13 TX
  obtain ⟨d0, d1, _, _⟩ := X18_13.out
  obtain ⟨c0, c1, c2, c3, _⟩ := X7_13.out
  rw [HTX.out]
  have hfi := HFI.out
  rw [show VT [] = .string ⟨#[]⟩ from rfl]
  go_wp2
  have hS0 : Below w13.heap.size w13 w13.drew := (Below.refl _ _).drew
  refine region_S (fun w' => Below w13.heap.size w13 w') 21 (by kernel_rfl) (by kernel_rfl) ?_
  refine take_S 0 rfl (by kernel_rfl) (by kernel_rfl) hS0 (fun w' hS => by obtain ⟨y0, y1, y2, y3, _⟩ := X17_13.out.below hS X17_13.out.lt; go_simp; rfl) ?_
  refine take_S 2 rfl (by kernel_rfl) (by kernel_rfl) hS0 (fun w' hS => by obtain ⟨y0, y1, _, _⟩ := X18_13.out.below hS X18_13.out.lt; go_simp; rfl) ?_
  refine carry_S 1 rfl (by kernel_rfl) (by decide) (by kernel_rfl) (fun K hK => ?_)
  go_simp
  refine (RcCheck_any a _ r HRB.out _ ((S17_13.out.below hS0 (Nat.le_of_lt X17_13.out.lt)).v.more (Nat.le_trans (Nat.le_of_lt X17_13.out.lt) hS0.size)) (H.out.below (B_13.out.trans (hS0.mono B_13.out.size))).five).mono ?_
  rintro e w15 ⟨x15, rfl, hev, hb15⟩
  have hS1 : Below w13.heap.size w13 w15 := hS0.trans hb15
  have hE15 := hev
  clear hev
  refine hK _ _ hS1 ?_
  clear hK K
  try simp only [Act.put, List.getElem_toArray, List.getElem_cons_succ, List.getElem_cons_zero, List.setIfInBounds_toArray, List.set_cons_zero, List.set_cons_succ]
  refine carry_S 3 rfl (by kernel_rfl) (by decide) (by kernel_rfl) (fun K hK => ?_)
  go_simp
  have FT := faulted1_any a x15 (rcpFault r).1 (rcpFault r).2 (rcpFault r).1 (rcpFault r).2 w15 (H.out.below (B_13.out.trans (hS1.mono B_13.out.size))).s (evErrV hE15 (H.out.below (B_13.out.trans (hS1.mono B_13.out.size))).s)
  rw [faulted_yes] at FT
  refine FT.mono ?_
  rintro e w16 ⟨rfl, hb16⟩
  have hS2 : Below w13.heap.size w13 w16 := hS1.trans (hb16.mono hS1.size)
  clear FT hE15
  refine hK _ _ hS2 ?_
  clear hK K
  try simp only [Act.put, List.getElem_toArray, List.getElem_cons_succ, List.getElem_cons_zero, List.setIfInBounds_toArray, List.set_cons_zero, List.set_cons_succ]
  refine take_S 4 rfl (by kernel_rfl) (by kernel_rfl) hS2 (fun w' hS => by go_simp; rfl) ?_
  refine take_S 5 rfl (by kernel_rfl) (by kernel_rfl) hS2 (fun w' hS => by go_simp; rfl) ?_
  refine take_S 6 rfl (by kernel_rfl) (by kernel_rfl) hS2 (fun w' hS => by go_simp; rfl) ?_
  refine take_S 7 rfl (by kernel_rfl) (by kernel_rfl) hS2 (fun w' hS => by obtain ⟨y0, y1, _, _⟩ := X18_13.out.below hS X18_13.out.lt; go_simp; rfl) ?_
  refine carry_S 8 rfl (by kernel_rfl) (by decide) (by kernel_rfl) (fun K hK => ?_)
  go_simp
  have hE13 := E13_13.out.below hS2
  have FT := faulted1_any a x13 (rcpFault r).1 (rcpFault r).2 (rcpFault r).1 (rcpFault r).2 w16 (H.out.below (B_13.out.trans (hS2.mono B_13.out.size))).s (evErrV hE13 (H.out.below (B_13.out.trans (hS2.mono B_13.out.size))).s)
  rw [faulted_yes] at FT
  refine FT.mono ?_
  rintro e w17 ⟨rfl, hb17⟩
  have hS3 : Below w13.heap.size w13 w17 := hS2.trans (hb17.mono hS2.size)
  clear FT hE13
  refine hK _ _ hS3 ?_
  clear hK K
  try simp only [Act.put, List.getElem_toArray, List.getElem_cons_succ, List.getElem_cons_zero, List.setIfInBounds_toArray, List.set_cons_zero, List.set_cons_succ]
  refine take_S 9 rfl (by kernel_rfl) (by kernel_rfl) hS3 (fun w' hS => by go_simp; rfl) ?_
  refine take_S 10 rfl (by kernel_rfl) (by kernel_rfl) hS3 (fun w' hS => by go_simp; rfl) ?_
  refine take_S 11 rfl (by kernel_rfl) (by kernel_rfl) hS3 (fun w' hS => by go_simp; rfl) ?_
  refine take_S 12 rfl (by kernel_rfl) (by kernel_rfl) hS3 (fun w' hS => by go_simp; rfl) ?_
  refine take_S 13 rfl (by kernel_rfl) (by kernel_rfl) hS3 (fun w' hS => by go_simp; rfl) ?_
  refine take_S 14 rfl (by kernel_rfl) (by kernel_rfl) hS3 (fun w' hS => by go_simp; rfl) ?_
  refine take_S 15 rfl (by kernel_rfl) (by kernel_rfl) hS3 (fun w' hS => by go_simp; rfl) ?_
  refine take_S 16 rfl (by kernel_rfl) (by kernel_rfl) hS3 (fun w' hS => by go_simp; rfl) ?_
  refine take_S 17 rfl (by kernel_rfl) (by kernel_rfl) hS3 (fun w' hS => by obtain ⟨y0, y1, y2, y3, _⟩ := X17_13.out.below hS X17_13.out.lt; go_simp; rfl) ?_
  refine take_S 19 rfl (by kernel_rfl) (by kernel_rfl) hS3 (fun w' hS => by obtain ⟨y0, y1, y2, y3, _⟩ := X7_13.out.below hS X7_13.out.lt; go_simp; rfl) ?_
  refine carry_S 18 rfl (by kernel_rfl) (by decide) (by kernel_rfl) (fun K hK => ?_)
  go_simp
  refine (RcRep_any _ r HRB.out.c _ ((S17_13.out.below hS3 (Nat.le_of_lt X17_13.out.lt)).v.more (Nat.le_trans (Nat.le_of_lt X17_13.out.lt) hS3.size))).mono ?_
  rintro e w18 ⟨rfl, hb18⟩
  have hS4 : Below w13.heap.size w13 w18 := hS3.trans (hb18.mono hS3.size)
  refine hK _ _ hS4 ?_
  clear hK K
  try simp only [Act.put, List.getElem_toArray, List.getElem_cons_succ, List.getElem_cons_zero, List.setIfInBounds_toArray, List.set_cons_zero, List.set_cons_succ]
  refine carry_S 20 rfl (by kernel_rfl) (by decide) (by kernel_rfl) (fun K hK => ?_)
  go_simp
  refine (RRepOf_any _ r HRB.out.c _ (HV.out.below (B_13.out.trans (hS4.mono B_13.out.size)))).mono ?_
  rintro e w19 ⟨rfl, hb19⟩
  have hS5 : Below w13.heap.size w13 w19 := hS4.trans (hb19.mono hS4.size)
  refine hK _ _ hS5 (forced_S (by kernel_rfl) ?_)
  clear hK K
  try simp only [Act.put, List.getElem_toArray, List.getElem_cons_succ, List.getElem_cons_zero, List.setIfInBounds_toArray, List.set_cons_zero, List.set_cons_succ]
  simp only [List.drop_succ_cons, List.drop_zero]
  clear E13_13
  have B_19 := Lib.hid (B_13.out.trans (hS5.mono B_13.out.size))
  have X7_19 := Lib.hid (X7_13.out.below hS5 X7_13.out.lt)
  have X12_19 := Lib.hid (X12_13.out.below hS5 X12_13.out.lt)
  have X14_19 := Lib.hid (X14_13.out.below hS5 X14_13.out.lt)
  have X17_19 := Lib.hid (X17_13.out.below hS5 X17_13.out.lt)
  have S17_19 := Lib.hid (S17_13.out.below hS5 (Nat.le_of_lt X17_13.out.lt))
  have X18_19 := Lib.hid (X18_13.out.below hS5 X18_13.out.lt)
  have N18_19 := Lib.hid ((hS5.cell (p := ⟨w11.heap.size, 2, none⟩) X18_13.out.lt).trans N18_13.out)
  clear B_13 X7_13 X12_13 X14_13 X17_13 S17_13 X18_13 N18_13
  clear hS0 hS1 hS2 hS3 hS4 hS5 hb15 hb16 hb17 hb18 hb19
  go_wp2_with fail
  refine (RcRead_any a t (by have := HTZ.out; omega) w19 (H.out.below B_19.out).rc).mono ?_
  rintro e w20 ⟨v20, x20, rfl, hev, hs20, hb20⟩
  rw [HE2.out] at hev
  rw [HR2.out] at hs20
  obtain ⟨A4, u4, rfl⟩ := hs20.v.form
  have M20 := Lib.hid hb20.size
  have M19 := Lib.hid X18_19.out.lt
  have B_20 := Lib.hid (B_19.out.trans (hb20.mono B_19.out.size))
  have X7_20 := Lib.hid (X7_19.out.below hb20 X7_19.out.lt)
  have X12_20 := Lib.hid (X12_19.out.below hb20 X12_19.out.lt)
  have X14_20 := Lib.hid (X14_19.out.below hb20 X14_19.out.lt)
  have X17_20 := Lib.hid (X17_19.out.below hb20 X17_19.out.lt)
  have S17_20 := Lib.hid (S17_19.out.below hb20 (Nat.le_of_lt X17_19.out.lt))
  have X18_20 := Lib.hid (X18_19.out.below hb20 X18_19.out.lt)
  have N18_20 := Lib.hid ((hb20.cell (p := ⟨w11.heap.size, 2, none⟩) X18_19.out.lt).trans N18_19.out)
  clear B_19 X7_19 X12_19 X14_19 X17_19 S17_19 X18_19 N18_19
  have E20_20 := Lib.hid hev
  have S20_20 := Lib.hid hs20
  clear hev hs20 hb20
  obtain ⟨c0, c1, c2, c3, hf⟩ := X12_20.out
  have f0 := hf 0
  have f1 := hf 1
  have f2 := hf 2
  have f3 := hf 3
  clear hf
  have B_21 := Lib.hid (below_set4 (b := w3.heap.size) B_20.out (by have := M7.out; have := M9.out; have := M19.out; have := M20.out; omega) (VT r2.name) (.int .i64 r2.len) (.int .u32 (r2.print : Int)) (.slice A4 r2.ids.length u4))
  have X7_21 := Lib.hid (X7_20.out.set4F (d := w3.heap.size) (by have := M7.out; have := M9.out; have := M19.out; have := M20.out; omega) (VT r2.name) (.int .i64 r2.len) (.int .u32 (r2.print : Int)) (.slice A4 r2.ids.length u4))
  have X12_21 := Lib.hid (X12_20.out.set (VT r2.name) (.int .i64 r2.len) (.int .u32 (r2.print : Int)) (.slice A4 r2.ids.length u4))
  have X14_21 := Lib.hid (X14_20.out.set4F (d := w3.heap.size) (by have := M7.out; have := M9.out; have := M19.out; have := M20.out; omega) (VT r2.name) (.int .i64 r2.len) (.int .u32 (r2.print : Int)) (.slice A4 r2.ids.length u4))
  have X17_21 := Lib.hid (X17_20.out.set4F (d := w3.heap.size) (by have := M7.out; have := M9.out; have := M19.out; have := M20.out; omega) (VT r2.name) (.int .i64 r2.len) (.int .u32 (r2.print : Int)) (.slice A4 r2.ids.length u4))
  have S17_21 := Lib.hid (S17_20.out.set4F (d := w3.heap.size) (by have := M7.out; have := M9.out; have := M19.out; have := M20.out; omega) (VT r2.name) (.int .i64 r2.len) (.int .u32 (r2.print : Int)) (.slice A4 r2.ids.length u4))
  have X18_21 := Lib.hid (X18_20.out.set4F (d := w3.heap.size) (by have := M7.out; have := M9.out; have := M19.out; have := M20.out; omega) (VT r2.name) (.int .i64 r2.len) (.int .u32 (r2.print : Int)) (.slice A4 r2.ids.length u4))
  have N18_21 := Lib.hid ((cell_set4 (b := w3.heap.size) w20 (VT r2.name) (.int .i64 r2.len) (.int .u32 (r2.print : Int)) (.slice A4 r2.ids.length u4) (p := ⟨w11.heap.size, 2, none⟩) (by show w11.heap.size ≠ w3.heap.size; have := M7.out; have := M9.out; have := M19.out; have := M20.out; omega)).trans N18_20.out)
  have E20_21 := Lib.hid (ev_set4 E20_20.out X12_20.out (VT r2.name) (.int .i64 r2.len) (.int .u32 (r2.print : Int)) (.slice A4 r2.ids.length u4))
  have S20_21 := Lib.hid (S20_20.out.set4F (d := w3.heap.size) (by have := M7.out; have := M9.out; have := M19.out; have := M20.out; omega) (VT r2.name) (.int .i64 r2.len) (.int .u32 (r2.print : Int)) (.slice A4 r2.ids.length u4))
  clear B_20 X7_20 X12_20 X14_20 X17_20 S17_20 X18_20 N18_20 E20_20 S20_20
  have Z21 : Hid (((((w20.setCell ⟨w3.heap.size, 0, none⟩ (VT r2.name)).setCell ⟨w3.heap.size, 1, none⟩ (.int .i64 r2.len)).setCell ⟨w3.heap.size, 2, none⟩ (.int .u32 (r2.print : Int))).setCell ⟨w3.heap.size, 3, none⟩ (.slice A4 r2.ids.length u4)).heap.size = w20.heap.size) := Lib.hid (size_set4 _ _ _ _ _ _)
  go_wp2_with fail
  generalize ((((w20.setCell ⟨w3.heap.size, 0, none⟩ (VT r2.name)).setCell ⟨w3.heap.size, 1, none⟩ (.int .i64 r2.len)).setCell ⟨w3.heap.size, 2, none⟩ (.int .u32 (r2.print : Int))).setCell ⟨w3.heap.size, 3, none⟩ (.slice A4 r2.ids.length u4)) = w21 at *
  clear c0 c1 c2 c3 f0 f1 f2 f3
  refine (RReadRecipe_any t (by have := HTZ.out; omega) w21).mono ?_
  rintro e w22 ⟨v22, rfl, hs22, hb22⟩
  rw [HE2.out]
  rw [HR2.out] at hs22
  obtain ⟨A5, u5, rfl⟩ := hs22.v.form
  have B_22 := Lib.hid (B_21.out.trans (hb22.mono B_21.out.size))
  have X7_22 := Lib.hid (X7_21.out.below hb22 X7_21.out.lt)
  have X12_22 := Lib.hid (X12_21.out.below hb22 X12_21.out.lt)
  have X14_22 := Lib.hid (X14_21.out.below hb22 X14_21.out.lt)
  have X17_22 := Lib.hid (X17_21.out.below hb22 X17_21.out.lt)
  have S17_22 := Lib.hid (S17_21.out.below hb22 (Nat.le_of_lt X17_21.out.lt))
  have X18_22 := Lib.hid (X18_21.out.below hb22 X18_21.out.lt)
  have N18_22 := Lib.hid ((hb22.cell (p := ⟨w11.heap.size, 2, none⟩) X18_21.out.lt).trans N18_21.out)
  have E20_22 := Lib.hid (E20_21.out.below hb22)
  have S20_22 := Lib.hid (S20_21.out.below hb22 (Nat.le_of_eq Z21.out.symm))
  clear B_21 X7_21 X12_21 X14_21 X17_21 S17_21 X18_21 N18_21 E20_21 S20_21
  have M22 := Lib.hid hb22.size
  have S22_22 := Lib.hid hs22
  clear hs22 hb22
  obtain ⟨c0, c1, c2, c3, hf⟩ := X14_22.out
  have f0 := hf 0
  have f1 := hf 1
  have f2 := hf 2
  have f3 := hf 3
  clear hf
  obtain ⟨d0, d1, g0, g1⟩ := X18_22.out
  have B_a := Lib.hid (below_set4 (b := w5.heap.size) B_22.out (by have := M7.out; have := M9.out; have := M19.out; have := M20.out; have := M22.out; have := Z21.out; omega) (VT r2.name) (.int .i64 r2.len) (.int .u32 (r2.print : Int)) (.slice A5 r2.ids.length u5))
  have X7_a := Lib.hid (X7_22.out.set4F (d := w5.heap.size) (by have := M7.out; have := M9.out; have := M19.out; have := M20.out; have := M22.out; have := Z21.out; omega) (VT r2.name) (.int .i64 r2.len) (.int .u32 (r2.print : Int)) (.slice A5 r2.ids.length u5))
  have X12_a := Lib.hid (X12_22.out.set4F (d := w5.heap.size) (by have := M7.out; have := M9.out; have := M19.out; have := M20.out; have := M22.out; have := Z21.out; omega) (VT r2.name) (.int .i64 r2.len) (.int .u32 (r2.print : Int)) (.slice A5 r2.ids.length u5))
  have X14_a := Lib.hid (X14_22.out.set (VT r2.name) (.int .i64 r2.len) (.int .u32 (r2.print : Int)) (.slice A5 r2.ids.length u5))
  have X17_a := Lib.hid (X17_22.out.set4F (d := w5.heap.size) (by have := M7.out; have := M9.out; have := M19.out; have := M20.out; have := M22.out; have := Z21.out; omega) (VT r2.name) (.int .i64 r2.len) (.int .u32 (r2.print : Int)) (.slice A5 r2.ids.length u5))
  have S17_a := Lib.hid (S17_22.out.set4F (d := w5.heap.size) (by have := M7.out; have := M9.out; have := M19.out; have := M20.out; have := M22.out; have := Z21.out; omega) (VT r2.name) (.int .i64 r2.len) (.int .u32 (r2.print : Int)) (.slice A5 r2.ids.length u5))
  have X18_a := Lib.hid (X18_22.out.set4F (d := w5.heap.size) (by have := M7.out; have := M9.out; have := M19.out; have := M20.out; have := M22.out; have := Z21.out; omega) (VT r2.name) (.int .i64 r2.len) (.int .u32 (r2.print : Int)) (.slice A5 r2.ids.length u5))
  have N18_a := Lib.hid ((cell_set4 (b := w5.heap.size) w22 (VT r2.name) (.int .i64 r2.len) (.int .u32 (r2.print : Int)) (.slice A5 r2.ids.length u5) (p := ⟨w11.heap.size, 2, none⟩) (by show w11.heap.size ≠ w5.heap.size; have := M7.out; have := M9.out; have := M19.out; have := M20.out; have := M22.out; have := Z21.out; omega)).trans N18_22.out)
  have E20_a := Lib.hid (ev_set4 E20_22.out X14_22.out (VT r2.name) (.int .i64 r2.len) (.int .u32 (r2.print : Int)) (.slice A5 r2.ids.length u5))
  have S20_a := Lib.hid (S20_22.out.set4F (d := w5.heap.size) (by have := M7.out; have := M9.out; have := M19.out; have := M20.out; have := M22.out; have := Z21.out; omega) (VT r2.name) (.int .i64 r2.len) (.int .u32 (r2.print : Int)) (.slice A5 r2.ids.length u5))
  have S22_a := Lib.hid (S22_22.out.set4F (d := w5.heap.size) (by have := M7.out; have := M9.out; have := M19.out; have := M20.out; have := M22.out; have := Z21.out; omega) (VT r2.name) (.int .i64 r2.len) (.int .u32 (r2.print : Int)) (.slice A5 r2.ids.length u5))
  clear B_22 X7_22 X12_22 X14_22 X17_22 S17_22 X18_22 N18_22 E20_22 S20_22 S22_22
  have Za : Hid (((((w22.setCell ⟨w5.heap.size, 0, none⟩ (VT r2.name)).setCell ⟨w5.heap.size, 1, none⟩ (.int .i64 r2.len)).setCell ⟨w5.heap.size, 2, none⟩ (.int .u32 (r2.print : Int))).setCell ⟨w5.heap.size, 3, none⟩ (.slice A5 r2.ids.length u5)).heap.size = w22.heap.size) := Lib.hid (size_set4 _ _ _ _ _ _)
  generalize hwa : ((((w22.setCell ⟨w5.heap.size, 0, none⟩ (VT r2.name)).setCell ⟨w5.heap.size, 1, none⟩ (.int .i64 r2.len)).setCell ⟨w5.heap.size, 2, none⟩ (.int .u32 (r2.print : Int))).setCell ⟨w5.heap.size, 3, none⟩ (.slice A5 r2.ids.length u5)) = wa at *
  have HWA := Lib.hid hwa
  clear hwa
  have B_23 := Lib.hid (below_set2 (b := w11.heap.size) B_a.out (by have := M7.out; have := M9.out; have := M19.out; have := M20.out; have := M22.out; have := Z21.out; omega) (.int .i64 k2) (.int .i64 p2))
  have X7_23 := Lib.hid (X7_a.out.set2F (d := w11.heap.size) (by have := M7.out; have := M9.out; have := M19.out; have := M20.out; have := M22.out; have := Z21.out; omega) (.int .i64 k2) (.int .i64 p2))
  have X12_23 := Lib.hid (X12_a.out.set2F (d := w11.heap.size) (by have := M7.out; have := M9.out; have := M19.out; have := M20.out; have := M22.out; have := Z21.out; omega) (.int .i64 k2) (.int .i64 p2))
  have X14_23 := Lib.hid (X14_a.out.set2F (d := w11.heap.size) (by have := M7.out; have := M9.out; have := M19.out; have := M20.out; have := M22.out; have := Z21.out; omega) (.int .i64 k2) (.int .i64 p2))
  have X17_23 := Lib.hid (X17_a.out.set2F (d := w11.heap.size) (by have := M7.out; have := M9.out; have := M19.out; have := M20.out; have := M22.out; have := Z21.out; omega) (.int .i64 k2) (.int .i64 p2))
  have S17_23 := Lib.hid (S17_a.out.set2F (d := w11.heap.size) (by have := M7.out; have := M9.out; have := M19.out; have := M20.out; have := M22.out; have := Z21.out; omega) (.int .i64 k2) (.int .i64 p2))
  have X18_23 := Lib.hid (X18_a.out.set (.int .i64 k2) (.int .i64 p2))
  have E20_23 := Lib.hid (ev_set2 E20_a.out X18_a.out N18_a.out (.int .i64 k2) (.int .i64 p2))
  have S20_23 := Lib.hid (S20_a.out.set2F (d := w11.heap.size) (by have := M7.out; have := M9.out; have := M19.out; have := M20.out; have := M22.out; have := Z21.out; omega) (.int .i64 k2) (.int .i64 p2))
  have S22_23 := Lib.hid (S22_a.out.set2F (d := w11.heap.size) (by have := M7.out; have := M9.out; have := M19.out; have := M20.out; have := M22.out; have := Z21.out; omega) (.int .i64 k2) (.int .i64 p2))
  clear B_a X7_a X12_a X14_a X17_a S17_a X18_a E20_a S20_a S22_a
  have N18_23 : Hid (((wa.setCell ⟨w11.heap.size, 0, none⟩ (.int .i64 k2)).setCell ⟨w11.heap.size, 1, none⟩ (.int .i64 p2)).cell? ⟨w11.heap.size, 2, none⟩ = none) := Lib.hid (cell2_keep N18_a.out _ _)
  clear N18_a
  have Z23 : Hid (((wa.setCell ⟨w11.heap.size, 0, none⟩ (.int .i64 k2)).setCell ⟨w11.heap.size, 1, none⟩ (.int .i64 p2)).heap.size = wa.heap.size) := Lib.hid (by simp [World.setCell])
  obtain ⟨x0, x1, x2, x3, _⟩ := X12_23.out
  obtain ⟨y0, y1, y2, y3, _⟩ := X14_23.out
  have HW23 : Hid (((((((w22.setCell ⟨w5.heap.size, 0, none⟩ (VT r2.name)).setCell ⟨w5.heap.size, 1, none⟩ (.int .i64 r2.len)).setCell ⟨w5.heap.size, 2, none⟩ (.int .u32 (r2.print : Int))).setCell ⟨w5.heap.size, 3, none⟩ (.slice A5 r2.ids.length u5)).setCell ⟨w11.heap.size, 0, none⟩ (.int .i64 k2)).setCell ⟨w11.heap.size, 1, none⟩ (.int .i64 p2)) = ((wa.setCell ⟨w11.heap.size, 0, none⟩ (.int .i64 k2)).setCell ⟨w11.heap.size, 1, none⟩ (.int .i64 p2))) := Lib.hid (by rw [HWA.out])
  rw [← HWA.out] at x0 x1 x2 x3 y0 y1 y2 y3
  have SM := Lib.hid (SameRecipe_same (.agg #[VT r2.name, .int .i64 r2.len, .int .u32 (r2.print : Int), .slice A4 r2.ids.length u4]) (.agg #[VT r2.name, .int .i64 r2.len, .int .u32 (r2.print : Int), .slice A5 r2.ids.length u5]) r2 HRV.out ((wa.setCell ⟨w11.heap.size, 0, none⟩ (.int .i64 k2)).setCell ⟨w11.heap.size, 1, none⟩ (.int .i64 p2)) (S20_23.out.v.more (by rw [Z23.out, Za.out]; have := M22.out; have := Z21.out; omega)) (S22_23.out.v.more (by rw [Z23.out, Za.out]; exact Nat.le_refl _)))
  have na0 : ¬ (w3.heap.size = w5.heap.size) := by have := M7.out; have := M9.out; have := M19.out; have := M20.out; have := M22.out; have := Z21.out; omega
  have nb0 : ¬ (w5.heap.size = w3.heap.size) := by have := M7.out; have := M9.out; have := M19.out; have := M20.out; have := M22.out; have := Z21.out; omega
  have na1 : ¬ (w3.heap.size = w11.heap.size) := by have := M7.out; have := M9.out; have := M19.out; have := M20.out; have := M22.out; have := Z21.out; omega
  have nb1 : ¬ (w11.heap.size = w3.heap.size) := by have := M7.out; have := M9.out; have := M19.out; have := M20.out; have := M22.out; have := Z21.out; omega
  have na2 : ¬ (w5.heap.size = w11.heap.size) := by have := M7.out; have := M9.out; have := M19.out; have := M20.out; have := M22.out; have := Z21.out; omega
  have nb2 : ¬ (w11.heap.size = w5.heap.size) := by have := M7.out; have := M9.out; have := M19.out; have := M20.out; have := M22.out; have := Z21.out; omega
  go_wp2_with fail
  clear na0 na1 na2 nb0 nb1 nb2
  rw [HW23.out]
  generalize ((wa.setCell ⟨w11.heap.size, 0, none⟩ (.int .i64 k2)).setCell ⟨w11.heap.size, 1, none⟩ (.int .i64 p2)) = w23 at *
  clear x0 x1 x2 x3 y0 y1 y2 y3 c0 c1 c2 c3 f0 f1 f2 f3 d0 d1 g0 g1
  refine SM.out.mono ?_
  rintro e w24 ⟨rfl, hb24⟩
  clear SM S20_23 S22_23
  have B_24 := Lib.hid (B_23.out.trans (hb24.mono B_23.out.size))
  have X7_24 := Lib.hid (X7_23.out.below hb24 X7_23.out.lt)
  have X12_24 := Lib.hid (X12_23.out.below hb24 X12_23.out.lt)
  have X14_24 := Lib.hid (X14_23.out.below hb24 X14_23.out.lt)
  have X17_24 := Lib.hid (X17_23.out.below hb24 X17_23.out.lt)
  have S17_24 := Lib.hid (S17_23.out.below hb24 (Nat.le_of_lt X17_23.out.lt))
  have X18_24 := Lib.hid (X18_23.out.below hb24 X18_23.out.lt)
  have N18_24 := Lib.hid ((hb24.cell (p := ⟨w11.heap.size, 2, none⟩) X18_23.out.lt).trans N18_23.out)
  have E20_24 := Lib.hid (E20_23.out.below hb24)
  clear B_23 X7_23 X12_23 X14_23 X17_23 S17_23 X18_23 N18_23 E20_23
  clear hb24
  have FT := Lib.hid (faulted1_any a x20 k2 p2 k2 p2 w24 (H.out.below B_24.out).s (evErrV E20_24.out (H.out.below B_24.out).s))
  rw [faulted_yes] at FT
  obtain ⟨d0, d1, _, _⟩ := X18_24.out
  go_wp2_with fail
  refine FT.out.mono ?_
  rintro e w25 ⟨rfl, hb25⟩
  clear FT d0 d1 E20_24
  have B_25 := Lib.hid (B_24.out.trans (hb25.mono B_24.out.size))
  have X7_25 := Lib.hid (X7_24.out.below hb25 X7_24.out.lt)
  have X12_25 := Lib.hid (X12_24.out.below hb25 X12_24.out.lt)
  have X14_25 := Lib.hid (X14_24.out.below hb25 X14_24.out.lt)
  have X17_25 := Lib.hid (X17_24.out.below hb25 X17_24.out.lt)
  have S17_25 := Lib.hid (S17_24.out.below hb25 (Nat.le_of_lt X17_24.out.lt))
  have X18_25 := Lib.hid (X18_24.out.below hb25 X18_24.out.lt)
  have N18_25 := Lib.hid ((hb25.cell (p := ⟨w11.heap.size, 2, none⟩) X18_24.out.lt).trans N18_24.out)
  clear B_24 X7_24 X12_24 X14_24 X17_24 S17_24 X18_24 N18_24
  clear hb25
  go_wp2
  go_loopg [21] ls.length (fun gh vi wr => ∃ k : Nat, vi = .int .i64 k ∧ k ≤ ls.length ∧ gh = ls.length - k ∧ (∀ p ∈ ls.take k, p.length ≤ 100) ∧ w25 = wr)
  case atStart => exact ⟨0, rfl, Nat.zero_le _, rfl, (fun p hp => by rw [List.take_zero] at hp; cases hp), rfl⟩
  case round =>
    obtain ⟨k, rfl, hk, hgm, hall, rfl⟩ := hrel
    have HALL := Lib.hid hall
    clear hall
    by_cases hkl : k < ls.length
    · obtain ⟨gl, ol, rfl, hgl, hxl⟩ := HLX.out (by intro e; have := congrArg List.length e; rw [List.length_map] at this; simp at this; rw [this] at hkl; exact absurd hkl (Nat.not_lt_zero _))
      have z0 : w.cell? ⟨gl, ol + k, none⟩ = some (.string (bs ls[k])) := hxl k _ (by simp [hkl])
      have z1 := (B_25.out.cell (p := ⟨gl, ol + k, none⟩) hgl).trans z0
      have b1 : (0 : Int) ≤ (k : Int) := by omega
      have b2 : (k : Int) < (ls.length : Int) := by omega
      have HBZ := Lib.hid (bs_size ls[k])
      clear hxl z0
      by_cases hlong : 100 < (bs ls[k]).size
      · have hli : ((bs ls[k]).size : Int) > 100 := by omega
        go_wp2
        go_ret
        exact ⟨rfl, B_25.out⟩
      · have hli : ¬ ((bs ls[k]).size : Int) > 100 := by omega
        have HN : Hid (∀ p ∈ ls.take (k + 1), p.length ≤ 100) := Lib.hid (fun p hp => by
          rw [List.take_succ_eq_append_getElem hkl, List.mem_append] at hp
          rcases hp with hp | hp
          · exact HALL.out p hp
          · rw [List.mem_singleton] at hp; rw [hp, ← HBZ.out]; omega)
        clear hlong
        go_wp2
        go_roundg (ls.length - (k + 1))
        case measure => omega
        case rel => exact ⟨k + 1, by go_num, hkl, rfl, HN.out, rfl⟩
    · obtain rfl : k = ls.length := by omega
      have HSZ : Hid (∀ p ∈ ls, p.length ≤ 1000000) := Lib.hid (fun p hp => by have := HALL.out p (by rw [List.take_length]; exact hp); omega)
      clear HALL
      obtain ⟨c0, c1, c2, c3, _⟩ := X17_25.out
      have JN := Lib.hid (RcJoin_any a _ (.slice Al ls.length cl) r HRB.out ls (by have := HLL.out; omega) HSZ.out w25 ((S17_25.out.v.more (Nat.le_of_lt X17_25.out.lt))) ((HL.out.below B_25.out).more B_25.out.size) (H.out.below B_25.out).five)
      go_wp2_with fail
      refine JN.out.mono ?_
      rintro e w26 ⟨x26, rfl, hev, hb26⟩
      clear c0 c1 c2 c3 JN
      have B_26 := Lib.hid (B_25.out.trans (hb26.mono B_25.out.size))
      have X7_26 := Lib.hid (X7_25.out.below hb26 X7_25.out.lt)
      have X12_26 := Lib.hid (X12_25.out.below hb26 X12_25.out.lt)
      have X14_26 := Lib.hid (X14_25.out.below hb26 X14_25.out.lt)
      have X17_26 := Lib.hid (X17_25.out.below hb26 X17_25.out.lt)
      have S17_26 := Lib.hid (S17_25.out.below hb26 (Nat.le_of_lt X17_25.out.lt))
      have X18_26 := Lib.hid (X18_25.out.below hb26 X18_25.out.lt)
      have N18_26 := Lib.hid ((hb26.cell (p := ⟨w11.heap.size, 2, none⟩) X18_25.out.lt).trans N18_25.out)
      clear B_25 X7_25 X12_25 X14_25 X17_25 S17_25 X18_25 N18_25
      have E26_26 := Lib.hid hev
      clear hev hb26
      obtain ⟨c0, c1, c2, c3, _⟩ := X7_26.out
      have JR := Lib.hid (RJoinOf_any _ (.slice Al ls.length cl) r HRB.out ls (by have := HLL.out; omega) HSZ.out w26 ((HV.out.below B_26.out)) ((HL.out.below B_26.out).more B_26.out.size))
      go_wp2_with fail
      refine JR.out.mono ?_
      rintro e w27 ⟨rfl, hb27⟩
      clear c0 c1 c2 c3 JR
      have B_27 := Lib.hid (B_26.out.trans (hb27.mono B_26.out.size))
      have X7_27 := Lib.hid (X7_26.out.below hb27 X7_26.out.lt)
      have X12_27 := Lib.hid (X12_26.out.below hb27 X12_26.out.lt)
      have X14_27 := Lib.hid (X14_26.out.below hb27 X14_26.out.lt)
      have X17_27 := Lib.hid (X17_26.out.below hb27 X17_26.out.lt)
      have S17_27 := Lib.hid (S17_26.out.below hb27 (Nat.le_of_lt X17_26.out.lt))
      have X18_27 := Lib.hid (X18_26.out.below hb27 X18_26.out.lt)
      have N18_27 := Lib.hid ((hb27.cell (p := ⟨w11.heap.size, 2, none⟩) X18_26.out.lt).trans N18_26.out)
      have E26_27 := Lib.hid (E26_26.out.below hb27)
      clear B_26 X7_26 X12_26 X14_26 X17_26 S17_26 X18_26 N18_26 E26_26
      clear hb27
      generalize joinRes r ls = j at *
      obtain ⟨jt, jc, jp⟩ := j
      obtain ⟨d0, d1, g0, g1⟩ := X18_27.out
      have B_28 := Lib.hid (below_set2 (b := w11.heap.size) B_27.out (by have := M7.out; have := M9.out; omega) (.int .i64 jc) (.int .i64 jp))
      have X7_28 := Lib.hid (X7_27.out.set2F (d := w11.heap.size) (by have := M7.out; have := M9.out; omega) (.int .i64 jc) (.int .i64 jp))
      have X12_28 := Lib.hid (X12_27.out.set2F (d := w11.heap.size) (by have := M7.out; have := M9.out; omega) (.int .i64 jc) (.int .i64 jp))
      have X14_28 := Lib.hid (X14_27.out.set2F (d := w11.heap.size) (by have := M7.out; have := M9.out; omega) (.int .i64 jc) (.int .i64 jp))
      have X17_28 := Lib.hid (X17_27.out.set2F (d := w11.heap.size) (by have := M7.out; have := M9.out; omega) (.int .i64 jc) (.int .i64 jp))
      have S17_28 := Lib.hid (S17_27.out.set2F (d := w11.heap.size) (by have := M7.out; have := M9.out; omega) (.int .i64 jc) (.int .i64 jp))
      have X18_28 := Lib.hid (X18_27.out.set (.int .i64 jc) (.int .i64 jp))
      have E26_28 := Lib.hid (ev_set2 E26_27.out X18_27.out N18_27.out (.int .i64 jc) (.int .i64 jp))
      clear B_27 X7_27 X12_27 X14_27 X17_27 S17_27 X18_27 E26_27
      have hnm := HNZ.out
      go_wp2_with fail
      generalize ((w27.setCell ⟨w11.heap.size, 0, none⟩ (.int .i64 jc)).setCell ⟨w11.heap.size, 1, none⟩ (.int .i64 jp)) = w28 at *
      clear d0 d1 g0 g1 N18_27
      refine (RIsName_any n (by omega) w28).mono ?_
      rintro e w29 ⟨rfl, hw29⟩
      have hb29 : Below w28.heap.size w28 w29 := by rw [← hw29]; exact Below.refl _ _
      have B_29 := Lib.hid (B_28.out.trans (hb29.mono B_28.out.size))
      have X7_29 := Lib.hid (X7_28.out.below hb29 X7_28.out.lt)
      have X12_29 := Lib.hid (X12_28.out.below hb29 X12_28.out.lt)
      have X14_29 := Lib.hid (X14_28.out.below hb29 X14_28.out.lt)
      have X17_29 := Lib.hid (X17_28.out.below hb29 X17_28.out.lt)
      have S17_29 := Lib.hid (S17_28.out.below hb29 (Nat.le_of_lt X17_28.out.lt))
      have X18_29 := Lib.hid (X18_28.out.below hb29 X18_28.out.lt)
      have E26_29 := Lib.hid (E26_28.out.below hb29)
      clear B_28 X7_28 X12_28 X14_28 X17_28 S17_28 X18_28 E26_28
      clear hb29 hw29
      have FT := Lib.hid (faulted1_any a x26 jc jp jc jp w29 (H.out.below B_29.out).s (evErrV E26_29.out (H.out.below B_29.out).s))
      rw [faulted_yes] at FT
      obtain ⟨d0, d1, _, _⟩ := X18_29.out
      go_wp2_with fail
      refine FT.out.mono ?_
      rintro e w30 ⟨rfl, hb30⟩
      have B_30 := Lib.hid (B_29.out.trans (hb30.mono B_29.out.size))
      have X7_30 := Lib.hid (X7_29.out.below hb30 X7_29.out.lt)
      have X12_30 := Lib.hid (X12_29.out.below hb30 X12_29.out.lt)
      have X14_30 := Lib.hid (X14_29.out.below hb30 X14_29.out.lt)
      have X17_30 := Lib.hid (X17_29.out.below hb30 X17_29.out.lt)
      have S17_30 := Lib.hid (S17_29.out.below hb30 (Nat.le_of_lt X17_29.out.lt))
      have X18_30 := Lib.hid (X18_29.out.below hb30 X18_29.out.lt)
      have E26_30 := Lib.hid (E26_29.out.below hb30)
      clear B_29 X7_29 X12_29 X14_29 X17_29 S17_29 X18_29 E26_29
      clear hb30 d0 d1
      go_wp2_with fail
      refine (RcName_any n (by omega) w30).mono ?_
      rintro e w31 ⟨rfl, hb31⟩
      have B_31 := Lib.hid (B_30.out.trans (hb31.mono B_30.out.size))
      have X7_31 := Lib.hid (X7_30.out.below hb31 X7_30.out.lt)
      have X12_31 := Lib.hid (X12_30.out.below hb31 X12_30.out.lt)
      have X14_31 := Lib.hid (X14_30.out.below hb31 X14_30.out.lt)
      have X17_31 := Lib.hid (X17_30.out.below hb31 X17_30.out.lt)
      have S17_31 := Lib.hid (S17_30.out.below hb31 (Nat.le_of_lt X17_30.out.lt))
      have X18_31 := Lib.hid (X18_30.out.below hb31 X18_30.out.lt)
      have E26_31 := Lib.hid (E26_30.out.below hb31)
      clear B_30 X7_30 X12_30 X14_30 X17_30 S17_30 X18_30 E26_30
      clear hb31
      go_wp2
      go_ret
      exact ⟨by simp, B_31.out⟩
set_option maxRecDepth 100000 in
set_option maxHeartbeats 16000000 in
theorem RcTl_B0 (a : Nat → Addr) (n s : ByteArray) (v : Value) (r : Rcp) (t : ByteArray) (lv : Value) (ls : List Bytes) (h1 : ¬ 30 < n.size) (h2 : 1500 < s.size) (h3 : s.size = 4001) (h4 : longR r = 0) (h5 : ¬ 1500 < t.size) (h6 : ¬ 60 < ls.length) (hf : (rcpFault r).1 = 0) (hn : n.size ≤ maxLen) (w : World) (hv : RcpV w w.heap.size v r) (ho : RcpO r) (hl : Rd w w.heap.size lv (ls.map VT)) (h : RbW a w) :
    Calls Tryz.prog 5 #[.string n, .string s, v, .string t, lv] w fun e w' => e = .returned (.bool true) ∧ Below w.heap.size w w' := by
  obtain ⟨A, c, rfl⟩ := hv.form
  have hl0 := hl
  obtain ⟨Al, cl, hlv, hcl, hcx⟩ := hl
  rw [List.length_map] at hlv hcl
  subst hlv
  have hb0 : Below w.heap.size w (w.alloc (.cells #[VT r.name, .int .i64 r.len, .int .u32 (r.print : Int), .slice A r.ids.length c] 36)) := (Below.refl _ w).alloc (Nat.le_refl _) _
  have hx7 : Box4 w.heap.size (VT r.name) (.int .i64 r.len) (.int .u32 (r.print : Int)) (.slice A r.ids.length c) (w.alloc (.cells #[VT r.name, .int .i64 r.len, .int .u32 (r.print : Int), .slice A r.ids.length c] 36)) := Box4.mk' _ _ _ _ _ _
  have CO := Lib.hid (cooked_any a (w.alloc (.cells #[VT r.name, .int .i64 r.len, .int .u32 (r.print : Int), .slice A r.ids.length c] 36)) (h.below hb0))
  have B_0 := Lib.hid hb0
  have X7_0 := Lib.hid hx7
  have HV := Lib.hid hv
  have H := Lib.hid h
  have HRN := Lib.hid ho.n
  have HRC := Lib.hid ho.c
  have HLR := Lib.hid h4
  have HRB : Hid (RcpB r) := Lib.hid ⟨by have := (longR_zero h4).1; omega, ho.l0, ho.l1, ho.p, by have := (longR_zero h4).2; omega, ho.i⟩
  have HL : Hid (Rd w w.heap.size (.slice Al ls.length cl) (ls.map VT)) := Lib.hid hl0
  have HLX := Lib.hid hcx
  have HLL : Hid (ls.length ≤ 60) := Lib.hid (by omega)
  have HTZ : Hid (t.size ≤ 1500) := Lib.hid (by omega)
  have HNZ : Hid (n.size ≤ 30) := Lib.hid (by omega)
  have HO1 := Lib.hid (ofRes_len n.data.toList s.data.toList)
  have HRV : Hid ((readVal t.data.toList).ids.length ≤ 1000000) := Lib.hid (readVal_len _ (by rw [← size_toList]; omega))
  have HOF := Lib.hid (fun w1 (hs : SomeS [1, 3] a w1) => RcOf_any a n s hn w1 hs)
  have HROF := Lib.hid (fun w1 => RRecipeOf_any n s hn w1)
  have h1i : ¬ (n.size : Int) > 30 := by omega
  have h2i : (s.size : Int) > 1500 := by omega
  have h3i : ((s.size : Int) != 4001) = false := by rw [h3]; rfl
  have h5i : ¬ (t.size : Int) > 1500 := by omega
  have h6i : ¬ (ls.length : Int) > 60 := by omega
  have HF : Hid (rcpFault r = (0, -1)) := Lib.hid (rcpFault_two hf)
  have HTX : Hid (textRes r = rcpText r) := Lib.hid (if_pos hf)
  have HF0 := Lib.hid hf
  clear h1 h2 h3 h4 h5 h6 hf hb0 hx7 h ho hcx hv hn hl0
  generalize hf1 : ofRes n.data.toList s.data.toList = f1 at *
  clear hf1
  obtain ⟨k1, r1⟩ := f1
  generalize hr2 : readVal t.data.toList = r2 at *
  generalize he2 : readErr t.data.toList = e2 at *
  have HR2 := Lib.hid hr2
  have HE2 := Lib.hid he2
  clear hr2 he2
  obtain ⟨k2, p2⟩ := e2
  go_enter Tryz.func5, Tryz.ntmps5
  go_wp2_with fail
  refine CO.out.mono ?_
  rintro e w1 ⟨rfl, hb1⟩
  have B_1 := Lib.hid (B_0.out.trans (hb1.mono B_0.out.size))
  have X7_1 := Lib.hid (X7_0.out.below hb1 X7_0.out.lt)
  clear B_0 X7_0
  clear hb1 CO
  obtain ⟨c0, c1, c2, c3, _⟩ := X7_1.out
  go_wp2_with fail
  refine (LongRecipe_any _ r HRN.out HRC.out _ w1 ((HV.out.below B_1.out))).mono ?_
  rintro e w2 ⟨rfl, hb2⟩
  rw [HLR.out]
  clear c0 c1 c2 c3
  have B_2 := Lib.hid (B_1.out.trans (hb2.mono B_1.out.size))
  have X7_2 := Lib.hid (X7_1.out.below hb2 X7_1.out.lt)
  clear B_1 X7_1
  clear hb2
  go_wp2_with fail
  refine (HOF.out w2 (H.out.below B_2.out).two).mono ?_
  rintro e w3 ⟨v3, x3, rfl, hev, hv3, hb3⟩
  obtain ⟨A1, u1, rfl⟩ := hv3.form
  have B_3 := Lib.hid (B_2.out.trans (hb3.mono B_2.out.size))
  have X7_3 := Lib.hid (X7_2.out.below hb3 X7_2.out.lt)
  clear B_2 X7_2
  have Ma := Lib.hid X7_3.out.lt
  have ha4 := (Below.refl w3.heap.size w3).alloc (Nat.le_refl _) (.cells #[VT r1.name, .int .i64 r1.len, .int .u32 (r1.print : Int), .slice A1 r1.ids.length u1] 36)
  have E3_3 := Lib.hid hev
  have B_4 := Lib.hid (B_3.out.trans (ha4.mono B_3.out.size))
  have X7_4 := Lib.hid (X7_3.out.below ha4 X7_3.out.lt)
  have E3_4 := Lib.hid (E3_3.out.below ha4)
  clear B_3 X7_3 E3_3
  have X12_4 : Hid (Box4 w3.heap.size (VT r1.name) (.int .i64 r1.len) (.int .u32 (r1.print : Int)) (.slice A1 r1.ids.length u1) (w3.alloc (.cells #[VT r1.name, .int .i64 r1.len, .int .u32 (r1.print : Int), .slice A1 r1.ids.length u1] 36))) := Lib.hid (Box4.mk' _ _ _ _ _ _)
  have V1_4 := Lib.hid (hv3.below ha4)
  clear hev hv3 hb3 ha4
  go_wp2_with fail
  generalize (w3.alloc (.cells #[VT r1.name, .int .i64 r1.len, .int .u32 (r1.print : Int), .slice A1 r1.ids.length u1] 36)) = w4 at *
  refine (HROF.out w4).mono ?_
  rintro e w5 ⟨v5, rfl, hv5, hb5⟩
  obtain ⟨A2, u2, rfl⟩ := hv5.form
  have B_5 := Lib.hid (B_4.out.trans (hb5.mono B_4.out.size))
  have X7_5 := Lib.hid (X7_4.out.below hb5 X7_4.out.lt)
  have E3_5 := Lib.hid (E3_4.out.below hb5)
  have X12_5 := Lib.hid (X12_4.out.below hb5 X12_4.out.lt)
  have V1_5 := Lib.hid (V1_4.out.below hb5)
  clear B_4 X7_4 E3_4 X12_4 V1_4
  have Mb := Lib.hid X12_5.out.lt
  have ha6 := (Below.refl w5.heap.size w5).alloc (Nat.le_refl _) (.cells #[VT r1.name, .int .i64 r1.len, .int .u32 (r1.print : Int), .slice A2 r1.ids.length u2] 36)
  have B_6 := Lib.hid (B_5.out.trans (ha6.mono B_5.out.size))
  have X7_6 := Lib.hid (X7_5.out.below ha6 X7_5.out.lt)
  have E3_6 := Lib.hid (E3_5.out.below ha6)
  have X12_6 := Lib.hid (X12_5.out.below ha6 X12_5.out.lt)
  have V1_6 := Lib.hid (V1_5.out.below ha6)
  clear B_5 X7_5 E3_5 X12_5 V1_5
  have X14_6 : Hid (Box4 w5.heap.size (VT r1.name) (.int .i64 r1.len) (.int .u32 (r1.print : Int)) (.slice A2 r1.ids.length u2) (w5.alloc (.cells #[VT r1.name, .int .i64 r1.len, .int .u32 (r1.print : Int), .slice A2 r1.ids.length u2] 36))) := Lib.hid (Box4.mk' _ _ _ _ _ _)
  have SM := Lib.hid (SameRecipe_same _ _ r1 HO1.out (w5.alloc (.cells #[VT r1.name, .int .i64 r1.len, .int .u32 (r1.print : Int), .slice A2 r1.ids.length u2] 36)) V1_6.out (hv5.below ha6))
  clear hv5 hb5 ha6 V1_6
  obtain ⟨c0, c1, c2, c3, _⟩ := X12_6.out
  obtain ⟨d0, d1, d2, d3, _⟩ := X14_6.out
  go_wp2_with fail
  generalize (w5.alloc (.cells #[VT r1.name, .int .i64 r1.len, .int .u32 (r1.print : Int), .slice A2 r1.ids.length u2] 36)) = w6 at *
  refine SM.out.mono ?_
  rintro e w7 ⟨rfl, hb7⟩
  clear c0 c1 c2 c3 d0 d1 d2 d3
  have B_7 := Lib.hid (B_6.out.trans (hb7.mono B_6.out.size))
  have X7_7 := Lib.hid (X7_6.out.below hb7 X7_6.out.lt)
  have E3_7 := Lib.hid (E3_6.out.below hb7)
  have X12_7 := Lib.hid (X12_6.out.below hb7 X12_6.out.lt)
  have X14_7 := Lib.hid (X14_6.out.below hb7 X14_6.out.lt)
  clear B_6 X7_6 E3_6 X12_6 X14_6
  clear hb7 SM
  have CD := Lib.hid (coded1_any a x3 k1 k1 (-1) w7 (H.out.below B_7.out).s (evErrV E3_7.out (H.out.below B_7.out).s))
  rw [coded_yes] at CD
  clear E3_7
  go_wp2_with fail
  refine CD.out.mono ?_
  rintro e w8 ⟨rfl, hb8⟩
  have B_8 := Lib.hid (B_7.out.trans (hb8.mono B_7.out.size))
  have X7_8 := Lib.hid (X7_7.out.below hb8 X7_7.out.lt)
  have X12_8 := Lib.hid (X12_7.out.below hb8 X12_7.out.lt)
  have X14_8 := Lib.hid (X14_7.out.below hb8 X14_7.out.lt)
  clear B_7 X7_7 X12_7 X14_7
  have Mc := Lib.hid X14_8.out.lt
  clear hb8 CD
  obtain ⟨c0, c1, c2, c3, _⟩ := X7_8.out
  go_wp2_with fail
  refine (OwnRecipe_any _ r HRB.out.c w8 ((HV.out.below B_8.out))).mono ?_
  rintro e w9 ⟨v9, rfl, hs9, hb9⟩
  obtain ⟨A3, u3, rfl⟩ := hs9.v.form
  clear c0 c1 c2 c3
  have B_9 := Lib.hid (B_8.out.trans (hb9.mono B_8.out.size))
  have X7_9 := Lib.hid (X7_8.out.below hb9 X7_8.out.lt)
  have X12_9 := Lib.hid (X12_8.out.below hb9 X12_8.out.lt)
  have X14_9 := Lib.hid (X14_8.out.below hb9 X14_8.out.lt)
  clear B_8 X7_8 X12_8 X14_8
  have ha10 := (Below.refl w9.heap.size w9).alloc (Nat.le_refl _) (.cells #[VT r.name, .int .i64 r.len, .int .u32 (r.print : Int), .slice A3 r.ids.length u3] 36)
  have B_10 := Lib.hid (B_9.out.trans (ha10.mono B_9.out.size))
  have X7_10 := Lib.hid (X7_9.out.below ha10 X7_9.out.lt)
  have X12_10 := Lib.hid (X12_9.out.below ha10 X12_9.out.lt)
  have X14_10 := Lib.hid (X14_9.out.below ha10 X14_9.out.lt)
  clear B_9 X7_9 X12_9 X14_9
  have X17_10 : Hid (Box4 w9.heap.size (VT r.name) (.int .i64 r.len) (.int .u32 (r.print : Int)) (.slice A3 r.ids.length u3) (w9.alloc (.cells #[VT r.name, .int .i64 r.len, .int .u32 (r.print : Int), .slice A3 r.ids.length u3] 36))) := Lib.hid (Box4.mk' _ _ _ _ _ _)
  have S17_10 := Lib.hid (hs9.below ha10 (Nat.le_refl _))
  have M9 := Lib.hid hb9.size
  clear hs9 hb9 ha10
  obtain ⟨c0, c1, c2, c3, _⟩ := X7_10.out
  go_wp2_with fail
  generalize (w9.alloc (.cells #[VT r.name, .int .i64 r.len, .int .u32 (r.print : Int), .slice A3 r.ids.length u3] 36)) = w10 at *
  refine (RRecipeFault_any _ r HRB.out w10 ((HV.out.below B_10.out))).mono ?_
  rintro e w11 ⟨rfl, hb11⟩
  clear c0 c1 c2 c3
  have B_11 := Lib.hid (B_10.out.trans (hb11.mono B_10.out.size))
  have X7_11 := Lib.hid (X7_10.out.below hb11 X7_10.out.lt)
  have X12_11 := Lib.hid (X12_10.out.below hb11 X12_10.out.lt)
  have X14_11 := Lib.hid (X14_10.out.below hb11 X14_10.out.lt)
  have X17_11 := Lib.hid (X17_10.out.below hb11 X17_10.out.lt)
  have S17_11 := Lib.hid (S17_10.out.below hb11 (Nat.le_of_lt X17_10.out.lt))
  clear B_10 X7_10 X12_10 X14_10 X17_10 S17_10
  have M7 : Hid (w.heap.size < w3.heap.size ∧ w3.heap.size < w5.heap.size ∧ w5.heap.size < w8.heap.size ∧ w9.heap.size < w11.heap.size) := Lib.hid ⟨Ma.out, Mb.out, Mc.out, X17_11.out.lt⟩
  clear Ma Mb Mc
  rw [HF.out]
  have ha12 := (Below.refl w11.heap.size w11).alloc (Nat.le_refl _) (.cells #[.int .i64 (0 : Int), .int .i64 (-1 : Int)] 49)
  have B_12 := Lib.hid (B_11.out.trans (ha12.mono B_11.out.size))
  have X7_12 := Lib.hid (X7_11.out.below ha12 X7_11.out.lt)
  have X12_12 := Lib.hid (X12_11.out.below ha12 X12_11.out.lt)
  have X14_12 := Lib.hid (X14_11.out.below ha12 X14_11.out.lt)
  have X17_12 := Lib.hid (X17_11.out.below ha12 X17_11.out.lt)
  have S17_12 := Lib.hid (S17_11.out.below ha12 (Nat.le_of_lt X17_11.out.lt))
  clear B_11 X7_11 X12_11 X14_11 X17_11 S17_11
  have X18_12 : Hid (Box2 w11.heap.size (.int .i64 (0 : Int)) (.int .i64 (-1 : Int)) (w11.alloc (.cells #[.int .i64 (0 : Int), .int .i64 (-1 : Int)] 49))) := Lib.hid (Box2.mk' _ _ _ _)
  have N18_12 : Hid ((w11.alloc (.cells #[.int .i64 (0 : Int), .int .i64 (-1 : Int)] 49)).cell? ⟨w11.heap.size, 2, none⟩ = none) := Lib.hid (by rw [World.cell?_alloc_at _ _ _ _ rfl]; rfl)
  clear hb11 ha12
  obtain ⟨c0, c1, c2, c3, _⟩ := X17_12.out
  have TX := Lib.hid (RcText_any a _ r HRB.out _ ((S17_12.out.v.more (Nat.le_of_lt X17_12.out.lt))) (H.out.below B_12.out).five (H.out.below B_12.out).t)
  go_wp2_with fail
  generalize (w11.alloc (.cells #[.int .i64 (0 : Int), .int .i64 (-1 : Int)] 49)) = w12 at *
  refine TX.out.mono ?_
  rintro e w13 ⟨x13, rfl, hev, hb13⟩
  clear c0 c1 c2 c3
  have B_13 := Lib.hid (B_12.out.trans (hb13.mono B_12.out.size))
  have X7_13 := Lib.hid (X7_12.out.below hb13 X7_12.out.lt)
  have X12_13 := Lib.hid (X12_12.out.below hb13 X12_12.out.lt)
  have X14_13 := Lib.hid (X14_12.out.below hb13 X14_12.out.lt)
  have X17_13 := Lib.hid (X17_12.out.below hb13 X17_12.out.lt)
  have S17_13 := Lib.hid (S17_12.out.below hb13 (Nat.le_of_lt X17_12.out.lt))
  have X18_13 := Lib.hid (X18_12.out.below hb13 X18_12.out.lt)
  have N18_13 := Lib.hid ((hb13.cell (p := ⟨w11.heap.size, 2, none⟩) X18_12.out.lt).trans N18_12.out)
  clear B_12 X7_12 X12_12 X14_12 X17_12 S17_12 X18_12 N18_12
  have E13_13 := Lib.hid hev
  clear hev hb13 TX
  obtain ⟨d0, d1, _, _⟩ := X18_13.out
  obtain ⟨c0, c1, c2, c3, _⟩ := X7_13.out
  rw [HTX.out]
  go_wp2_with fail
  refine (RRecipeText_any _ r HRB.out HF0.out w13 ((HV.out.below B_13.out))).mono ?_
  rintro e w14 ⟨rfl, hb14⟩
  clear c0 c1 c2 c3 d0 d1
  have B_14 := Lib.hid (B_13.out.trans (hb14.mono B_13.out.size))
  have X7_14 := Lib.hid (X7_13.out.below hb14 X7_13.out.lt)
  have X12_14 := Lib.hid (X12_13.out.below hb14 X12_13.out.lt)
  have X14_14 := Lib.hid (X14_13.out.below hb14 X14_13.out.lt)
  have X17_14 := Lib.hid (X17_13.out.below hb14 X17_13.out.lt)
  have S17_14 := Lib.hid (S17_13.out.below hb14 (Nat.le_of_lt X17_13.out.lt))
  have X18_14 := Lib.hid (X18_13.out.below hb14 X18_13.out.lt)
  have N18_14 := Lib.hid ((hb14.cell (p := ⟨w11.heap.size, 2, none⟩) X18_13.out.lt).trans N18_13.out)
  have E13_14 := Lib.hid (E13_13.out.below hb14)
  clear B_13 X7_13 X12_13 X14_13 X17_13 S17_13 X18_13 N18_13 E13_13
  clear hb14
  go_wp2
  have hS0 : Below w14.heap.size w14 w14.drew := (Below.refl _ _).drew
  refine region_S (fun w' => Below w14.heap.size w14 w') 21 (by kernel_rfl) (by kernel_rfl) ?_
  refine take_S 0 rfl (by kernel_rfl) (by kernel_rfl) hS0 (fun w' hS => by obtain ⟨y0, y1, y2, y3, _⟩ := X17_14.out.below hS X17_14.out.lt; go_simp; rfl) ?_
  refine take_S 2 rfl (by kernel_rfl) (by kernel_rfl) hS0 (fun w' hS => by obtain ⟨y0, y1, _, _⟩ := X18_14.out.below hS X18_14.out.lt; go_simp; rfl) ?_
  refine carry_S 1 rfl (by kernel_rfl) (by decide) (by kernel_rfl) (fun K hK => ?_)
  go_simp
  refine (RcCheck_any a _ r HRB.out _ ((S17_14.out.below hS0 (Nat.le_of_lt X17_14.out.lt)).v.more (Nat.le_trans (Nat.le_of_lt X17_14.out.lt) hS0.size)) (H.out.below (B_14.out.trans (hS0.mono B_14.out.size))).five).mono ?_
  rintro e w15 ⟨x15, rfl, hev, hb15⟩
  have hS1 : Below w14.heap.size w14 w15 := hS0.trans hb15
  have hE15 := hev
  clear hev
  refine hK _ _ hS1 ?_
  clear hK K
  try simp only [Act.put, List.getElem_toArray, List.getElem_cons_succ, List.getElem_cons_zero, List.setIfInBounds_toArray, List.set_cons_zero, List.set_cons_succ]
  rw [HF.out] at hE15
  refine carry_S 3 rfl (by kernel_rfl) (by decide) (by kernel_rfl) (fun K hK => ?_)
  go_simp
  have FT := faulted1_any a x15 (0 : Int) (-1 : Int) (0 : Int) (-1 : Int) w15 (H.out.below (B_14.out.trans (hS1.mono B_14.out.size))).s (evErrV hE15 (H.out.below (B_14.out.trans (hS1.mono B_14.out.size))).s)
  rw [faulted_yes] at FT
  refine FT.mono ?_
  rintro e w16 ⟨rfl, hb16⟩
  have hS2 : Below w14.heap.size w14 w16 := hS1.trans (hb16.mono hS1.size)
  clear FT hE15
  refine hK _ _ hS2 ?_
  clear hK K
  try simp only [Act.put, List.getElem_toArray, List.getElem_cons_succ, List.getElem_cons_zero, List.setIfInBounds_toArray, List.set_cons_zero, List.set_cons_succ]
  refine take_S 4 rfl (by kernel_rfl) (by kernel_rfl) hS2 (fun w' hS => by go_simp; rfl) ?_
  refine take_S 5 rfl (by kernel_rfl) (by kernel_rfl) hS2 (fun w' hS => by go_simp; rfl) ?_
  refine take_S 6 rfl (by kernel_rfl) (by kernel_rfl) hS2 (fun w' hS => by go_simp; rfl) ?_
  refine take_S 7 rfl (by kernel_rfl) (by kernel_rfl) hS2 (fun w' hS => by obtain ⟨y0, y1, _, _⟩ := X18_14.out.below hS X18_14.out.lt; go_simp; rfl) ?_
  refine carry_S 8 rfl (by kernel_rfl) (by decide) (by kernel_rfl) (fun K hK => ?_)
  go_simp
  have hE13 := E13_14.out.below hS2
  rw [HF.out] at hE13
  have FT := faulted1_any a x13 (0 : Int) (-1 : Int) (0 : Int) (-1 : Int) w16 (H.out.below (B_14.out.trans (hS2.mono B_14.out.size))).s (evErrV hE13 (H.out.below (B_14.out.trans (hS2.mono B_14.out.size))).s)
  rw [faulted_yes] at FT
  refine FT.mono ?_
  rintro e w17 ⟨rfl, hb17⟩
  have hS3 : Below w14.heap.size w14 w17 := hS2.trans (hb17.mono hS2.size)
  clear FT hE13
  refine hK _ _ hS3 ?_
  clear hK K
  try simp only [Act.put, List.getElem_toArray, List.getElem_cons_succ, List.getElem_cons_zero, List.setIfInBounds_toArray, List.set_cons_zero, List.set_cons_succ]
  refine take_S 9 rfl (by kernel_rfl) (by kernel_rfl) hS3 (fun w' hS => by go_simp; rfl) ?_
  refine take_S 10 rfl (by kernel_rfl) (by kernel_rfl) hS3 (fun w' hS => by go_simp; rfl) ?_
  refine take_S 11 rfl (by kernel_rfl) (by kernel_rfl) hS3 (fun w' hS => by go_simp; rfl) ?_
  refine take_S 12 rfl (by kernel_rfl) (by kernel_rfl) hS3 (fun w' hS => by go_simp; rfl) ?_
  refine take_S 13 rfl (by kernel_rfl) (by kernel_rfl) hS3 (fun w' hS => by go_simp; rfl) ?_
  refine take_S 14 rfl (by kernel_rfl) (by kernel_rfl) hS3 (fun w' hS => by go_simp; rfl) ?_
  refine take_S 15 rfl (by kernel_rfl) (by kernel_rfl) hS3 (fun w' hS => by go_simp; rfl) ?_
  refine take_S 16 rfl (by kernel_rfl) (by kernel_rfl) hS3 (fun w' hS => by go_simp; rfl) ?_
  refine take_S 17 rfl (by kernel_rfl) (by kernel_rfl) hS3 (fun w' hS => by obtain ⟨y0, y1, y2, y3, _⟩ := X17_14.out.below hS X17_14.out.lt; go_simp; rfl) ?_
  refine take_S 19 rfl (by kernel_rfl) (by kernel_rfl) hS3 (fun w' hS => by obtain ⟨y0, y1, y2, y3, _⟩ := X7_14.out.below hS X7_14.out.lt; go_simp; rfl) ?_
  refine carry_S 18 rfl (by kernel_rfl) (by decide) (by kernel_rfl) (fun K hK => ?_)
  go_simp
  refine (RcRep_any _ r HRB.out.c _ ((S17_14.out.below hS3 (Nat.le_of_lt X17_14.out.lt)).v.more (Nat.le_trans (Nat.le_of_lt X17_14.out.lt) hS3.size))).mono ?_
  rintro e w18 ⟨rfl, hb18⟩
  have hS4 : Below w14.heap.size w14 w18 := hS3.trans (hb18.mono hS3.size)
  refine hK _ _ hS4 ?_
  clear hK K
  try simp only [Act.put, List.getElem_toArray, List.getElem_cons_succ, List.getElem_cons_zero, List.setIfInBounds_toArray, List.set_cons_zero, List.set_cons_succ]
  refine carry_S 20 rfl (by kernel_rfl) (by decide) (by kernel_rfl) (fun K hK => ?_)
  go_simp
  refine (RRepOf_any _ r HRB.out.c _ (HV.out.below (B_14.out.trans (hS4.mono B_14.out.size)))).mono ?_
  rintro e w19 ⟨rfl, hb19⟩
  have hS5 : Below w14.heap.size w14 w19 := hS4.trans (hb19.mono hS4.size)
  refine hK _ _ hS5 (forced_S (by kernel_rfl) ?_)
  clear hK K
  try simp only [Act.put, List.getElem_toArray, List.getElem_cons_succ, List.getElem_cons_zero, List.setIfInBounds_toArray, List.set_cons_zero, List.set_cons_succ]
  simp only [List.drop_succ_cons, List.drop_zero]
  clear E13_14
  have B_19 := Lib.hid (B_14.out.trans (hS5.mono B_14.out.size))
  have X7_19 := Lib.hid (X7_14.out.below hS5 X7_14.out.lt)
  have X12_19 := Lib.hid (X12_14.out.below hS5 X12_14.out.lt)
  have X14_19 := Lib.hid (X14_14.out.below hS5 X14_14.out.lt)
  have X17_19 := Lib.hid (X17_14.out.below hS5 X17_14.out.lt)
  have S17_19 := Lib.hid (S17_14.out.below hS5 (Nat.le_of_lt X17_14.out.lt))
  have X18_19 := Lib.hid (X18_14.out.below hS5 X18_14.out.lt)
  have N18_19 := Lib.hid ((hS5.cell (p := ⟨w11.heap.size, 2, none⟩) X18_14.out.lt).trans N18_14.out)
  clear B_14 X7_14 X12_14 X14_14 X17_14 S17_14 X18_14 N18_14
  clear hS0 hS1 hS2 hS3 hS4 hS5 hb15 hb16 hb17 hb18 hb19
  go_wp2_with fail
  refine (RcRead_any a t (by have := HTZ.out; omega) w19 (H.out.below B_19.out).rc).mono ?_
  rintro e w20 ⟨v20, x20, rfl, hev, hs20, hb20⟩
  rw [HE2.out] at hev
  rw [HR2.out] at hs20
  obtain ⟨A4, u4, rfl⟩ := hs20.v.form
  have M20 := Lib.hid hb20.size
  have M19 := Lib.hid X18_19.out.lt
  have B_20 := Lib.hid (B_19.out.trans (hb20.mono B_19.out.size))
  have X7_20 := Lib.hid (X7_19.out.below hb20 X7_19.out.lt)
  have X12_20 := Lib.hid (X12_19.out.below hb20 X12_19.out.lt)
  have X14_20 := Lib.hid (X14_19.out.below hb20 X14_19.out.lt)
  have X17_20 := Lib.hid (X17_19.out.below hb20 X17_19.out.lt)
  have S17_20 := Lib.hid (S17_19.out.below hb20 (Nat.le_of_lt X17_19.out.lt))
  have X18_20 := Lib.hid (X18_19.out.below hb20 X18_19.out.lt)
  have N18_20 := Lib.hid ((hb20.cell (p := ⟨w11.heap.size, 2, none⟩) X18_19.out.lt).trans N18_19.out)
  clear B_19 X7_19 X12_19 X14_19 X17_19 S17_19 X18_19 N18_19
  have E20_20 := Lib.hid hev
  have S20_20 := Lib.hid hs20
  clear hev hs20 hb20
  obtain ⟨c0, c1, c2, c3, hf⟩ := X12_20.out
  have f0 := hf 0
  have f1 := hf 1
  have f2 := hf 2
  have f3 := hf 3
  clear hf
  have B_21 := Lib.hid (below_set4 (b := w3.heap.size) B_20.out (by have := M7.out; have := M9.out; have := M19.out; have := M20.out; omega) (VT r2.name) (.int .i64 r2.len) (.int .u32 (r2.print : Int)) (.slice A4 r2.ids.length u4))
  have X7_21 := Lib.hid (X7_20.out.set4F (d := w3.heap.size) (by have := M7.out; have := M9.out; have := M19.out; have := M20.out; omega) (VT r2.name) (.int .i64 r2.len) (.int .u32 (r2.print : Int)) (.slice A4 r2.ids.length u4))
  have X12_21 := Lib.hid (X12_20.out.set (VT r2.name) (.int .i64 r2.len) (.int .u32 (r2.print : Int)) (.slice A4 r2.ids.length u4))
  have X14_21 := Lib.hid (X14_20.out.set4F (d := w3.heap.size) (by have := M7.out; have := M9.out; have := M19.out; have := M20.out; omega) (VT r2.name) (.int .i64 r2.len) (.int .u32 (r2.print : Int)) (.slice A4 r2.ids.length u4))
  have X17_21 := Lib.hid (X17_20.out.set4F (d := w3.heap.size) (by have := M7.out; have := M9.out; have := M19.out; have := M20.out; omega) (VT r2.name) (.int .i64 r2.len) (.int .u32 (r2.print : Int)) (.slice A4 r2.ids.length u4))
  have S17_21 := Lib.hid (S17_20.out.set4F (d := w3.heap.size) (by have := M7.out; have := M9.out; have := M19.out; have := M20.out; omega) (VT r2.name) (.int .i64 r2.len) (.int .u32 (r2.print : Int)) (.slice A4 r2.ids.length u4))
  have X18_21 := Lib.hid (X18_20.out.set4F (d := w3.heap.size) (by have := M7.out; have := M9.out; have := M19.out; have := M20.out; omega) (VT r2.name) (.int .i64 r2.len) (.int .u32 (r2.print : Int)) (.slice A4 r2.ids.length u4))
  have N18_21 := Lib.hid ((cell_set4 (b := w3.heap.size) w20 (VT r2.name) (.int .i64 r2.len) (.int .u32 (r2.print : Int)) (.slice A4 r2.ids.length u4) (p := ⟨w11.heap.size, 2, none⟩) (by show w11.heap.size ≠ w3.heap.size; have := M7.out; have := M9.out; have := M19.out; have := M20.out; omega)).trans N18_20.out)
  have E20_21 := Lib.hid (ev_set4 E20_20.out X12_20.out (VT r2.name) (.int .i64 r2.len) (.int .u32 (r2.print : Int)) (.slice A4 r2.ids.length u4))
  have S20_21 := Lib.hid (S20_20.out.set4F (d := w3.heap.size) (by have := M7.out; have := M9.out; have := M19.out; have := M20.out; omega) (VT r2.name) (.int .i64 r2.len) (.int .u32 (r2.print : Int)) (.slice A4 r2.ids.length u4))
  clear B_20 X7_20 X12_20 X14_20 X17_20 S17_20 X18_20 N18_20 E20_20 S20_20
  have Z21 : Hid (((((w20.setCell ⟨w3.heap.size, 0, none⟩ (VT r2.name)).setCell ⟨w3.heap.size, 1, none⟩ (.int .i64 r2.len)).setCell ⟨w3.heap.size, 2, none⟩ (.int .u32 (r2.print : Int))).setCell ⟨w3.heap.size, 3, none⟩ (.slice A4 r2.ids.length u4)).heap.size = w20.heap.size) := Lib.hid (size_set4 _ _ _ _ _ _)
  go_wp2_with fail
  generalize ((((w20.setCell ⟨w3.heap.size, 0, none⟩ (VT r2.name)).setCell ⟨w3.heap.size, 1, none⟩ (.int .i64 r2.len)).setCell ⟨w3.heap.size, 2, none⟩ (.int .u32 (r2.print : Int))).setCell ⟨w3.heap.size, 3, none⟩ (.slice A4 r2.ids.length u4)) = w21 at *
  clear c0 c1 c2 c3 f0 f1 f2 f3
  refine (RReadRecipe_any t (by have := HTZ.out; omega) w21).mono ?_
  rintro e w22 ⟨v22, rfl, hs22, hb22⟩
  rw [HE2.out]
  rw [HR2.out] at hs22
  obtain ⟨A5, u5, rfl⟩ := hs22.v.form
  have B_22 := Lib.hid (B_21.out.trans (hb22.mono B_21.out.size))
  have X7_22 := Lib.hid (X7_21.out.below hb22 X7_21.out.lt)
  have X12_22 := Lib.hid (X12_21.out.below hb22 X12_21.out.lt)
  have X14_22 := Lib.hid (X14_21.out.below hb22 X14_21.out.lt)
  have X17_22 := Lib.hid (X17_21.out.below hb22 X17_21.out.lt)
  have S17_22 := Lib.hid (S17_21.out.below hb22 (Nat.le_of_lt X17_21.out.lt))
  have X18_22 := Lib.hid (X18_21.out.below hb22 X18_21.out.lt)
  have N18_22 := Lib.hid ((hb22.cell (p := ⟨w11.heap.size, 2, none⟩) X18_21.out.lt).trans N18_21.out)
  have E20_22 := Lib.hid (E20_21.out.below hb22)
  have S20_22 := Lib.hid (S20_21.out.below hb22 (Nat.le_of_eq Z21.out.symm))
  clear B_21 X7_21 X12_21 X14_21 X17_21 S17_21 X18_21 N18_21 E20_21 S20_21
  have M22 := Lib.hid hb22.size
  have S22_22 := Lib.hid hs22
  clear hs22 hb22
  obtain ⟨c0, c1, c2, c3, hf⟩ := X14_22.out
  have f0 := hf 0
  have f1 := hf 1
  have f2 := hf 2
  have f3 := hf 3
  clear hf
  obtain ⟨d0, d1, g0, g1⟩ := X18_22.out
  have B_a := Lib.hid (below_set4 (b := w5.heap.size) B_22.out (by have := M7.out; have := M9.out; have := M19.out; have := M20.out; have := M22.out; have := Z21.out; omega) (VT r2.name) (.int .i64 r2.len) (.int .u32 (r2.print : Int)) (.slice A5 r2.ids.length u5))
  have X7_a := Lib.hid (X7_22.out.set4F (d := w5.heap.size) (by have := M7.out; have := M9.out; have := M19.out; have := M20.out; have := M22.out; have := Z21.out; omega) (VT r2.name) (.int .i64 r2.len) (.int .u32 (r2.print : Int)) (.slice A5 r2.ids.length u5))
  have X12_a := Lib.hid (X12_22.out.set4F (d := w5.heap.size) (by have := M7.out; have := M9.out; have := M19.out; have := M20.out; have := M22.out; have := Z21.out; omega) (VT r2.name) (.int .i64 r2.len) (.int .u32 (r2.print : Int)) (.slice A5 r2.ids.length u5))
  have X14_a := Lib.hid (X14_22.out.set (VT r2.name) (.int .i64 r2.len) (.int .u32 (r2.print : Int)) (.slice A5 r2.ids.length u5))
  have X17_a := Lib.hid (X17_22.out.set4F (d := w5.heap.size) (by have := M7.out; have := M9.out; have := M19.out; have := M20.out; have := M22.out; have := Z21.out; omega) (VT r2.name) (.int .i64 r2.len) (.int .u32 (r2.print : Int)) (.slice A5 r2.ids.length u5))
  have S17_a := Lib.hid (S17_22.out.set4F (d := w5.heap.size) (by have := M7.out; have := M9.out; have := M19.out; have := M20.out; have := M22.out; have := Z21.out; omega) (VT r2.name) (.int .i64 r2.len) (.int .u32 (r2.print : Int)) (.slice A5 r2.ids.length u5))
  have X18_a := Lib.hid (X18_22.out.set4F (d := w5.heap.size) (by have := M7.out; have := M9.out; have := M19.out; have := M20.out; have := M22.out; have := Z21.out; omega) (VT r2.name) (.int .i64 r2.len) (.int .u32 (r2.print : Int)) (.slice A5 r2.ids.length u5))
  have N18_a := Lib.hid ((cell_set4 (b := w5.heap.size) w22 (VT r2.name) (.int .i64 r2.len) (.int .u32 (r2.print : Int)) (.slice A5 r2.ids.length u5) (p := ⟨w11.heap.size, 2, none⟩) (by show w11.heap.size ≠ w5.heap.size; have := M7.out; have := M9.out; have := M19.out; have := M20.out; have := M22.out; have := Z21.out; omega)).trans N18_22.out)
  have E20_a := Lib.hid (ev_set4 E20_22.out X14_22.out (VT r2.name) (.int .i64 r2.len) (.int .u32 (r2.print : Int)) (.slice A5 r2.ids.length u5))
  have S20_a := Lib.hid (S20_22.out.set4F (d := w5.heap.size) (by have := M7.out; have := M9.out; have := M19.out; have := M20.out; have := M22.out; have := Z21.out; omega) (VT r2.name) (.int .i64 r2.len) (.int .u32 (r2.print : Int)) (.slice A5 r2.ids.length u5))
  have S22_a := Lib.hid (S22_22.out.set4F (d := w5.heap.size) (by have := M7.out; have := M9.out; have := M19.out; have := M20.out; have := M22.out; have := Z21.out; omega) (VT r2.name) (.int .i64 r2.len) (.int .u32 (r2.print : Int)) (.slice A5 r2.ids.length u5))
  clear B_22 X7_22 X12_22 X14_22 X17_22 S17_22 X18_22 N18_22 E20_22 S20_22 S22_22
  have Za : Hid (((((w22.setCell ⟨w5.heap.size, 0, none⟩ (VT r2.name)).setCell ⟨w5.heap.size, 1, none⟩ (.int .i64 r2.len)).setCell ⟨w5.heap.size, 2, none⟩ (.int .u32 (r2.print : Int))).setCell ⟨w5.heap.size, 3, none⟩ (.slice A5 r2.ids.length u5)).heap.size = w22.heap.size) := Lib.hid (size_set4 _ _ _ _ _ _)
  generalize hwa : ((((w22.setCell ⟨w5.heap.size, 0, none⟩ (VT r2.name)).setCell ⟨w5.heap.size, 1, none⟩ (.int .i64 r2.len)).setCell ⟨w5.heap.size, 2, none⟩ (.int .u32 (r2.print : Int))).setCell ⟨w5.heap.size, 3, none⟩ (.slice A5 r2.ids.length u5)) = wa at *
  have HWA := Lib.hid hwa
  clear hwa
  have B_23 := Lib.hid (below_set2 (b := w11.heap.size) B_a.out (by have := M7.out; have := M9.out; have := M19.out; have := M20.out; have := M22.out; have := Z21.out; omega) (.int .i64 k2) (.int .i64 p2))
  have X7_23 := Lib.hid (X7_a.out.set2F (d := w11.heap.size) (by have := M7.out; have := M9.out; have := M19.out; have := M20.out; have := M22.out; have := Z21.out; omega) (.int .i64 k2) (.int .i64 p2))
  have X12_23 := Lib.hid (X12_a.out.set2F (d := w11.heap.size) (by have := M7.out; have := M9.out; have := M19.out; have := M20.out; have := M22.out; have := Z21.out; omega) (.int .i64 k2) (.int .i64 p2))
  have X14_23 := Lib.hid (X14_a.out.set2F (d := w11.heap.size) (by have := M7.out; have := M9.out; have := M19.out; have := M20.out; have := M22.out; have := Z21.out; omega) (.int .i64 k2) (.int .i64 p2))
  have X17_23 := Lib.hid (X17_a.out.set2F (d := w11.heap.size) (by have := M7.out; have := M9.out; have := M19.out; have := M20.out; have := M22.out; have := Z21.out; omega) (.int .i64 k2) (.int .i64 p2))
  have S17_23 := Lib.hid (S17_a.out.set2F (d := w11.heap.size) (by have := M7.out; have := M9.out; have := M19.out; have := M20.out; have := M22.out; have := Z21.out; omega) (.int .i64 k2) (.int .i64 p2))
  have X18_23 := Lib.hid (X18_a.out.set (.int .i64 k2) (.int .i64 p2))
  have E20_23 := Lib.hid (ev_set2 E20_a.out X18_a.out N18_a.out (.int .i64 k2) (.int .i64 p2))
  have S20_23 := Lib.hid (S20_a.out.set2F (d := w11.heap.size) (by have := M7.out; have := M9.out; have := M19.out; have := M20.out; have := M22.out; have := Z21.out; omega) (.int .i64 k2) (.int .i64 p2))
  have S22_23 := Lib.hid (S22_a.out.set2F (d := w11.heap.size) (by have := M7.out; have := M9.out; have := M19.out; have := M20.out; have := M22.out; have := Z21.out; omega) (.int .i64 k2) (.int .i64 p2))
  clear B_a X7_a X12_a X14_a X17_a S17_a X18_a E20_a S20_a S22_a
  have N18_23 : Hid (((wa.setCell ⟨w11.heap.size, 0, none⟩ (.int .i64 k2)).setCell ⟨w11.heap.size, 1, none⟩ (.int .i64 p2)).cell? ⟨w11.heap.size, 2, none⟩ = none) := Lib.hid (cell2_keep N18_a.out _ _)
  clear N18_a
  have Z23 : Hid (((wa.setCell ⟨w11.heap.size, 0, none⟩ (.int .i64 k2)).setCell ⟨w11.heap.size, 1, none⟩ (.int .i64 p2)).heap.size = wa.heap.size) := Lib.hid (by simp [World.setCell])
  obtain ⟨x0, x1, x2, x3, _⟩ := X12_23.out
  obtain ⟨y0, y1, y2, y3, _⟩ := X14_23.out
  have HW23 : Hid (((((((w22.setCell ⟨w5.heap.size, 0, none⟩ (VT r2.name)).setCell ⟨w5.heap.size, 1, none⟩ (.int .i64 r2.len)).setCell ⟨w5.heap.size, 2, none⟩ (.int .u32 (r2.print : Int))).setCell ⟨w5.heap.size, 3, none⟩ (.slice A5 r2.ids.length u5)).setCell ⟨w11.heap.size, 0, none⟩ (.int .i64 k2)).setCell ⟨w11.heap.size, 1, none⟩ (.int .i64 p2)) = ((wa.setCell ⟨w11.heap.size, 0, none⟩ (.int .i64 k2)).setCell ⟨w11.heap.size, 1, none⟩ (.int .i64 p2))) := Lib.hid (by rw [HWA.out])
  rw [← HWA.out] at x0 x1 x2 x3 y0 y1 y2 y3
  have SM := Lib.hid (SameRecipe_same (.agg #[VT r2.name, .int .i64 r2.len, .int .u32 (r2.print : Int), .slice A4 r2.ids.length u4]) (.agg #[VT r2.name, .int .i64 r2.len, .int .u32 (r2.print : Int), .slice A5 r2.ids.length u5]) r2 HRV.out ((wa.setCell ⟨w11.heap.size, 0, none⟩ (.int .i64 k2)).setCell ⟨w11.heap.size, 1, none⟩ (.int .i64 p2)) (S20_23.out.v.more (by rw [Z23.out, Za.out]; have := M22.out; have := Z21.out; omega)) (S22_23.out.v.more (by rw [Z23.out, Za.out]; exact Nat.le_refl _)))
  have na0 : ¬ (w3.heap.size = w5.heap.size) := by have := M7.out; have := M9.out; have := M19.out; have := M20.out; have := M22.out; have := Z21.out; omega
  have nb0 : ¬ (w5.heap.size = w3.heap.size) := by have := M7.out; have := M9.out; have := M19.out; have := M20.out; have := M22.out; have := Z21.out; omega
  have na1 : ¬ (w3.heap.size = w11.heap.size) := by have := M7.out; have := M9.out; have := M19.out; have := M20.out; have := M22.out; have := Z21.out; omega
  have nb1 : ¬ (w11.heap.size = w3.heap.size) := by have := M7.out; have := M9.out; have := M19.out; have := M20.out; have := M22.out; have := Z21.out; omega
  have na2 : ¬ (w5.heap.size = w11.heap.size) := by have := M7.out; have := M9.out; have := M19.out; have := M20.out; have := M22.out; have := Z21.out; omega
  have nb2 : ¬ (w11.heap.size = w5.heap.size) := by have := M7.out; have := M9.out; have := M19.out; have := M20.out; have := M22.out; have := Z21.out; omega
  go_wp2_with fail
  clear na0 na1 na2 nb0 nb1 nb2
  rw [HW23.out]
  generalize ((wa.setCell ⟨w11.heap.size, 0, none⟩ (.int .i64 k2)).setCell ⟨w11.heap.size, 1, none⟩ (.int .i64 p2)) = w23 at *
  clear x0 x1 x2 x3 y0 y1 y2 y3 c0 c1 c2 c3 f0 f1 f2 f3 d0 d1 g0 g1
  refine SM.out.mono ?_
  rintro e w24 ⟨rfl, hb24⟩
  clear SM S20_23 S22_23
  have B_24 := Lib.hid (B_23.out.trans (hb24.mono B_23.out.size))
  have X7_24 := Lib.hid (X7_23.out.below hb24 X7_23.out.lt)
  have X12_24 := Lib.hid (X12_23.out.below hb24 X12_23.out.lt)
  have X14_24 := Lib.hid (X14_23.out.below hb24 X14_23.out.lt)
  have X17_24 := Lib.hid (X17_23.out.below hb24 X17_23.out.lt)
  have S17_24 := Lib.hid (S17_23.out.below hb24 (Nat.le_of_lt X17_23.out.lt))
  have X18_24 := Lib.hid (X18_23.out.below hb24 X18_23.out.lt)
  have N18_24 := Lib.hid ((hb24.cell (p := ⟨w11.heap.size, 2, none⟩) X18_23.out.lt).trans N18_23.out)
  have E20_24 := Lib.hid (E20_23.out.below hb24)
  clear B_23 X7_23 X12_23 X14_23 X17_23 S17_23 X18_23 N18_23 E20_23
  clear hb24
  have FT := Lib.hid (faulted1_any a x20 k2 p2 k2 p2 w24 (H.out.below B_24.out).s (evErrV E20_24.out (H.out.below B_24.out).s))
  rw [faulted_yes] at FT
  obtain ⟨d0, d1, _, _⟩ := X18_24.out
  go_wp2_with fail
  refine FT.out.mono ?_
  rintro e w25 ⟨rfl, hb25⟩
  clear FT d0 d1 E20_24
  have B_25 := Lib.hid (B_24.out.trans (hb25.mono B_24.out.size))
  have X7_25 := Lib.hid (X7_24.out.below hb25 X7_24.out.lt)
  have X12_25 := Lib.hid (X12_24.out.below hb25 X12_24.out.lt)
  have X14_25 := Lib.hid (X14_24.out.below hb25 X14_24.out.lt)
  have X17_25 := Lib.hid (X17_24.out.below hb25 X17_24.out.lt)
  have S17_25 := Lib.hid (S17_24.out.below hb25 (Nat.le_of_lt X17_24.out.lt))
  have X18_25 := Lib.hid (X18_24.out.below hb25 X18_24.out.lt)
  have N18_25 := Lib.hid ((hb25.cell (p := ⟨w11.heap.size, 2, none⟩) X18_24.out.lt).trans N18_24.out)
  clear B_24 X7_24 X12_24 X14_24 X17_24 S17_24 X18_24 N18_24
  clear hb25
  go_wp2
  go_loopg [21] ls.length (fun gh vi wr => ∃ k : Nat, vi = .int .i64 k ∧ k ≤ ls.length ∧ gh = ls.length - k ∧ (∀ p ∈ ls.take k, p.length ≤ 100) ∧ w25 = wr)
  case atStart => exact ⟨0, rfl, Nat.zero_le _, rfl, (fun p hp => by rw [List.take_zero] at hp; cases hp), rfl⟩
  case round =>
    obtain ⟨k, rfl, hk, hgm, hall, rfl⟩ := hrel
    have HALL := Lib.hid hall
    clear hall
    by_cases hkl : k < ls.length
    · obtain ⟨gl, ol, rfl, hgl, hxl⟩ := HLX.out (by intro e; have := congrArg List.length e; rw [List.length_map] at this; simp at this; rw [this] at hkl; exact absurd hkl (Nat.not_lt_zero _))
      have z0 : w.cell? ⟨gl, ol + k, none⟩ = some (.string (bs ls[k])) := hxl k _ (by simp [hkl])
      have z1 := (B_25.out.cell (p := ⟨gl, ol + k, none⟩) hgl).trans z0
      have b1 : (0 : Int) ≤ (k : Int) := by omega
      have b2 : (k : Int) < (ls.length : Int) := by omega
      have HBZ := Lib.hid (bs_size ls[k])
      clear hxl z0
      by_cases hlong : 100 < (bs ls[k]).size
      · have hli : ((bs ls[k]).size : Int) > 100 := by omega
        go_wp2
        go_ret
        exact ⟨rfl, B_25.out⟩
      · have hli : ¬ ((bs ls[k]).size : Int) > 100 := by omega
        have HN : Hid (∀ p ∈ ls.take (k + 1), p.length ≤ 100) := Lib.hid (fun p hp => by
          rw [List.take_succ_eq_append_getElem hkl, List.mem_append] at hp
          rcases hp with hp | hp
          · exact HALL.out p hp
          · rw [List.mem_singleton] at hp; rw [hp, ← HBZ.out]; omega)
        clear hlong
        go_wp2
        go_roundg (ls.length - (k + 1))
        case measure => omega
        case rel => exact ⟨k + 1, by go_num, hkl, rfl, HN.out, rfl⟩
    · obtain rfl : k = ls.length := by omega
      have HSZ : Hid (∀ p ∈ ls, p.length ≤ 1000000) := Lib.hid (fun p hp => by have := HALL.out p (by rw [List.take_length]; exact hp); omega)
      clear HALL
      obtain ⟨c0, c1, c2, c3, _⟩ := X17_25.out
      have JN := Lib.hid (RcJoin_any a _ (.slice Al ls.length cl) r HRB.out ls (by have := HLL.out; omega) HSZ.out w25 ((S17_25.out.v.more (Nat.le_of_lt X17_25.out.lt))) ((HL.out.below B_25.out).more B_25.out.size) (H.out.below B_25.out).five)
      go_wp2_with fail
      refine JN.out.mono ?_
      rintro e w26 ⟨x26, rfl, hev, hb26⟩
      clear c0 c1 c2 c3 JN
      have B_26 := Lib.hid (B_25.out.trans (hb26.mono B_25.out.size))
      have X7_26 := Lib.hid (X7_25.out.below hb26 X7_25.out.lt)
      have X12_26 := Lib.hid (X12_25.out.below hb26 X12_25.out.lt)
      have X14_26 := Lib.hid (X14_25.out.below hb26 X14_25.out.lt)
      have X17_26 := Lib.hid (X17_25.out.below hb26 X17_25.out.lt)
      have S17_26 := Lib.hid (S17_25.out.below hb26 (Nat.le_of_lt X17_25.out.lt))
      have X18_26 := Lib.hid (X18_25.out.below hb26 X18_25.out.lt)
      have N18_26 := Lib.hid ((hb26.cell (p := ⟨w11.heap.size, 2, none⟩) X18_25.out.lt).trans N18_25.out)
      clear B_25 X7_25 X12_25 X14_25 X17_25 S17_25 X18_25 N18_25
      have E26_26 := Lib.hid hev
      clear hev hb26
      obtain ⟨c0, c1, c2, c3, _⟩ := X7_26.out
      have JR := Lib.hid (RJoinOf_any _ (.slice Al ls.length cl) r HRB.out ls (by have := HLL.out; omega) HSZ.out w26 ((HV.out.below B_26.out)) ((HL.out.below B_26.out).more B_26.out.size))
      go_wp2_with fail
      refine JR.out.mono ?_
      rintro e w27 ⟨rfl, hb27⟩
      clear c0 c1 c2 c3 JR
      have B_27 := Lib.hid (B_26.out.trans (hb27.mono B_26.out.size))
      have X7_27 := Lib.hid (X7_26.out.below hb27 X7_26.out.lt)
      have X12_27 := Lib.hid (X12_26.out.below hb27 X12_26.out.lt)
      have X14_27 := Lib.hid (X14_26.out.below hb27 X14_26.out.lt)
      have X17_27 := Lib.hid (X17_26.out.below hb27 X17_26.out.lt)
      have S17_27 := Lib.hid (S17_26.out.below hb27 (Nat.le_of_lt X17_26.out.lt))
      have X18_27 := Lib.hid (X18_26.out.below hb27 X18_26.out.lt)
      have N18_27 := Lib.hid ((hb27.cell (p := ⟨w11.heap.size, 2, none⟩) X18_26.out.lt).trans N18_26.out)
      have E26_27 := Lib.hid (E26_26.out.below hb27)
      clear B_26 X7_26 X12_26 X14_26 X17_26 S17_26 X18_26 N18_26 E26_26
      clear hb27
      generalize joinRes r ls = j at *
      obtain ⟨jt, jc, jp⟩ := j
      obtain ⟨d0, d1, g0, g1⟩ := X18_27.out
      have B_28 := Lib.hid (below_set2 (b := w11.heap.size) B_27.out (by have := M7.out; have := M9.out; omega) (.int .i64 jc) (.int .i64 jp))
      have X7_28 := Lib.hid (X7_27.out.set2F (d := w11.heap.size) (by have := M7.out; have := M9.out; omega) (.int .i64 jc) (.int .i64 jp))
      have X12_28 := Lib.hid (X12_27.out.set2F (d := w11.heap.size) (by have := M7.out; have := M9.out; omega) (.int .i64 jc) (.int .i64 jp))
      have X14_28 := Lib.hid (X14_27.out.set2F (d := w11.heap.size) (by have := M7.out; have := M9.out; omega) (.int .i64 jc) (.int .i64 jp))
      have X17_28 := Lib.hid (X17_27.out.set2F (d := w11.heap.size) (by have := M7.out; have := M9.out; omega) (.int .i64 jc) (.int .i64 jp))
      have S17_28 := Lib.hid (S17_27.out.set2F (d := w11.heap.size) (by have := M7.out; have := M9.out; omega) (.int .i64 jc) (.int .i64 jp))
      have X18_28 := Lib.hid (X18_27.out.set (.int .i64 jc) (.int .i64 jp))
      have E26_28 := Lib.hid (ev_set2 E26_27.out X18_27.out N18_27.out (.int .i64 jc) (.int .i64 jp))
      clear B_27 X7_27 X12_27 X14_27 X17_27 S17_27 X18_27 E26_27
      have hnm := HNZ.out
      go_wp2_with fail
      generalize ((w27.setCell ⟨w11.heap.size, 0, none⟩ (.int .i64 jc)).setCell ⟨w11.heap.size, 1, none⟩ (.int .i64 jp)) = w28 at *
      clear d0 d1 g0 g1 N18_27
      refine (RIsName_any n (by omega) w28).mono ?_
      rintro e w29 ⟨rfl, hw29⟩
      have hb29 : Below w28.heap.size w28 w29 := by rw [← hw29]; exact Below.refl _ _
      have B_29 := Lib.hid (B_28.out.trans (hb29.mono B_28.out.size))
      have X7_29 := Lib.hid (X7_28.out.below hb29 X7_28.out.lt)
      have X12_29 := Lib.hid (X12_28.out.below hb29 X12_28.out.lt)
      have X14_29 := Lib.hid (X14_28.out.below hb29 X14_28.out.lt)
      have X17_29 := Lib.hid (X17_28.out.below hb29 X17_28.out.lt)
      have S17_29 := Lib.hid (S17_28.out.below hb29 (Nat.le_of_lt X17_28.out.lt))
      have X18_29 := Lib.hid (X18_28.out.below hb29 X18_28.out.lt)
      have E26_29 := Lib.hid (E26_28.out.below hb29)
      clear B_28 X7_28 X12_28 X14_28 X17_28 S17_28 X18_28 E26_28
      clear hb29 hw29
      have FT := Lib.hid (faulted1_any a x26 jc jp jc jp w29 (H.out.below B_29.out).s (evErrV E26_29.out (H.out.below B_29.out).s))
      rw [faulted_yes] at FT
      obtain ⟨d0, d1, _, _⟩ := X18_29.out
      go_wp2_with fail
      refine FT.out.mono ?_
      rintro e w30 ⟨rfl, hb30⟩
      have B_30 := Lib.hid (B_29.out.trans (hb30.mono B_29.out.size))
      have X7_30 := Lib.hid (X7_29.out.below hb30 X7_29.out.lt)
      have X12_30 := Lib.hid (X12_29.out.below hb30 X12_29.out.lt)
      have X14_30 := Lib.hid (X14_29.out.below hb30 X14_29.out.lt)
      have X17_30 := Lib.hid (X17_29.out.below hb30 X17_29.out.lt)
      have S17_30 := Lib.hid (S17_29.out.below hb30 (Nat.le_of_lt X17_29.out.lt))
      have X18_30 := Lib.hid (X18_29.out.below hb30 X18_29.out.lt)
      have E26_30 := Lib.hid (E26_29.out.below hb30)
      clear B_29 X7_29 X12_29 X14_29 X17_29 S17_29 X18_29 E26_29
      clear hb30 d0 d1
      go_wp2_with fail
      refine (RcName_any n (by omega) w30).mono ?_
      rintro e w31 ⟨rfl, hb31⟩
      have B_31 := Lib.hid (B_30.out.trans (hb31.mono B_30.out.size))
      have X7_31 := Lib.hid (X7_30.out.below hb31 X7_30.out.lt)
      have X12_31 := Lib.hid (X12_30.out.below hb31 X12_30.out.lt)
      have X14_31 := Lib.hid (X14_30.out.below hb31 X14_30.out.lt)
      have X17_31 := Lib.hid (X17_30.out.below hb31 X17_30.out.lt)
      have S17_31 := Lib.hid (S17_30.out.below hb31 (Nat.le_of_lt X17_30.out.lt))
      have X18_31 := Lib.hid (X18_30.out.below hb31 X18_30.out.lt)
      have E26_31 := Lib.hid (E26_30.out.below hb31)
      clear B_30 X7_30 X12_30 X14_30 X17_30 S17_30 X18_30 E26_30
      clear hb31
      go_wp2
      go_ret
      exact ⟨by simp, B_31.out⟩
set_option maxRecDepth 100000 in
set_option maxHeartbeats 16000000 in
theorem RcTl_B1 (a : Nat → Addr) (n s : ByteArray) (v : Value) (r : Rcp) (t : ByteArray) (lv : Value) (ls : List Bytes) (h1 : ¬ 30 < n.size) (h2 : 1500 < s.size) (h3 : s.size = 4001) (h4 : longR r = 0) (h5 : ¬ 1500 < t.size) (h6 : ¬ 60 < ls.length) (hf : (rcpFault r).1 ≠ 0) (hn : n.size ≤ maxLen) (w : World) (hv : RcpV w w.heap.size v r) (ho : RcpO r) (hl : Rd w w.heap.size lv (ls.map VT)) (h : RbW a w) :
    Calls Tryz.prog 5 #[.string n, .string s, v, .string t, lv] w fun e w' => e = .returned (.bool true) ∧ Below w.heap.size w w' := by
  obtain ⟨A, c, rfl⟩ := hv.form
  have hl0 := hl
  obtain ⟨Al, cl, hlv, hcl, hcx⟩ := hl
  rw [List.length_map] at hlv hcl
  subst hlv
  have hb0 : Below w.heap.size w (w.alloc (.cells #[VT r.name, .int .i64 r.len, .int .u32 (r.print : Int), .slice A r.ids.length c] 36)) := (Below.refl _ w).alloc (Nat.le_refl _) _
  have hx7 : Box4 w.heap.size (VT r.name) (.int .i64 r.len) (.int .u32 (r.print : Int)) (.slice A r.ids.length c) (w.alloc (.cells #[VT r.name, .int .i64 r.len, .int .u32 (r.print : Int), .slice A r.ids.length c] 36)) := Box4.mk' _ _ _ _ _ _
  have CO := Lib.hid (cooked_any a (w.alloc (.cells #[VT r.name, .int .i64 r.len, .int .u32 (r.print : Int), .slice A r.ids.length c] 36)) (h.below hb0))
  have B_0 := Lib.hid hb0
  have X7_0 := Lib.hid hx7
  have HV := Lib.hid hv
  have H := Lib.hid h
  have HRN := Lib.hid ho.n
  have HRC := Lib.hid ho.c
  have HLR := Lib.hid h4
  have HRB : Hid (RcpB r) := Lib.hid ⟨by have := (longR_zero h4).1; omega, ho.l0, ho.l1, ho.p, by have := (longR_zero h4).2; omega, ho.i⟩
  have HL : Hid (Rd w w.heap.size (.slice Al ls.length cl) (ls.map VT)) := Lib.hid hl0
  have HLX := Lib.hid hcx
  have HLL : Hid (ls.length ≤ 60) := Lib.hid (by omega)
  have HTZ : Hid (t.size ≤ 1500) := Lib.hid (by omega)
  have HNZ : Hid (n.size ≤ 30) := Lib.hid (by omega)
  have HO1 := Lib.hid (ofRes_len n.data.toList s.data.toList)
  have HRV : Hid ((readVal t.data.toList).ids.length ≤ 1000000) := Lib.hid (readVal_len _ (by rw [← size_toList]; omega))
  have HOF := Lib.hid (fun w1 (hs : SomeS [1, 3] a w1) => RcOf_any a n s hn w1 hs)
  have HROF := Lib.hid (fun w1 => RRecipeOf_any n s hn w1)
  have h1i : ¬ (n.size : Int) > 30 := by omega
  have h2i : (s.size : Int) > 1500 := by omega
  have h3i : ((s.size : Int) != 4001) = false := by rw [h3]; rfl
  have h5i : ¬ (t.size : Int) > 1500 := by omega
  have h6i : ¬ (ls.length : Int) > 60 := by omega
  have HTX : Hid (textRes r = []) := Lib.hid (if_neg hf)
  have hfi : ((rcpFault r).1 == 0) = false := by simpa using hf
  have HFI := Lib.hid hfi
  clear hfi
  clear h1 h2 h3 h4 h5 h6 hf hb0 hx7 h ho hcx hv hn hl0
  generalize hf1 : ofRes n.data.toList s.data.toList = f1 at *
  clear hf1
  obtain ⟨k1, r1⟩ := f1
  generalize hr2 : readVal t.data.toList = r2 at *
  generalize he2 : readErr t.data.toList = e2 at *
  have HR2 := Lib.hid hr2
  have HE2 := Lib.hid he2
  clear hr2 he2
  obtain ⟨k2, p2⟩ := e2
  go_enter Tryz.func5, Tryz.ntmps5
  go_wp2_with fail
  refine CO.out.mono ?_
  rintro e w1 ⟨rfl, hb1⟩
  have B_1 := Lib.hid (B_0.out.trans (hb1.mono B_0.out.size))
  have X7_1 := Lib.hid (X7_0.out.below hb1 X7_0.out.lt)
  clear B_0 X7_0
  clear hb1 CO
  obtain ⟨c0, c1, c2, c3, _⟩ := X7_1.out
  go_wp2_with fail
  refine (LongRecipe_any _ r HRN.out HRC.out _ w1 ((HV.out.below B_1.out))).mono ?_
  rintro e w2 ⟨rfl, hb2⟩
  rw [HLR.out]
  clear c0 c1 c2 c3
  have B_2 := Lib.hid (B_1.out.trans (hb2.mono B_1.out.size))
  have X7_2 := Lib.hid (X7_1.out.below hb2 X7_1.out.lt)
  clear B_1 X7_1
  clear hb2
  go_wp2_with fail
  refine (HOF.out w2 (H.out.below B_2.out).two).mono ?_
  rintro e w3 ⟨v3, x3, rfl, hev, hv3, hb3⟩
  obtain ⟨A1, u1, rfl⟩ := hv3.form
  have B_3 := Lib.hid (B_2.out.trans (hb3.mono B_2.out.size))
  have X7_3 := Lib.hid (X7_2.out.below hb3 X7_2.out.lt)
  clear B_2 X7_2
  have Ma := Lib.hid X7_3.out.lt
  have ha4 := (Below.refl w3.heap.size w3).alloc (Nat.le_refl _) (.cells #[VT r1.name, .int .i64 r1.len, .int .u32 (r1.print : Int), .slice A1 r1.ids.length u1] 36)
  have E3_3 := Lib.hid hev
  have B_4 := Lib.hid (B_3.out.trans (ha4.mono B_3.out.size))
  have X7_4 := Lib.hid (X7_3.out.below ha4 X7_3.out.lt)
  have E3_4 := Lib.hid (E3_3.out.below ha4)
  clear B_3 X7_3 E3_3
  have X12_4 : Hid (Box4 w3.heap.size (VT r1.name) (.int .i64 r1.len) (.int .u32 (r1.print : Int)) (.slice A1 r1.ids.length u1) (w3.alloc (.cells #[VT r1.name, .int .i64 r1.len, .int .u32 (r1.print : Int), .slice A1 r1.ids.length u1] 36))) := Lib.hid (Box4.mk' _ _ _ _ _ _)
  have V1_4 := Lib.hid (hv3.below ha4)
  clear hev hv3 hb3 ha4
  go_wp2_with fail
  generalize (w3.alloc (.cells #[VT r1.name, .int .i64 r1.len, .int .u32 (r1.print : Int), .slice A1 r1.ids.length u1] 36)) = w4 at *
  refine (HROF.out w4).mono ?_
  rintro e w5 ⟨v5, rfl, hv5, hb5⟩
  obtain ⟨A2, u2, rfl⟩ := hv5.form
  have B_5 := Lib.hid (B_4.out.trans (hb5.mono B_4.out.size))
  have X7_5 := Lib.hid (X7_4.out.below hb5 X7_4.out.lt)
  have E3_5 := Lib.hid (E3_4.out.below hb5)
  have X12_5 := Lib.hid (X12_4.out.below hb5 X12_4.out.lt)
  have V1_5 := Lib.hid (V1_4.out.below hb5)
  clear B_4 X7_4 E3_4 X12_4 V1_4
  have Mb := Lib.hid X12_5.out.lt
  have ha6 := (Below.refl w5.heap.size w5).alloc (Nat.le_refl _) (.cells #[VT r1.name, .int .i64 r1.len, .int .u32 (r1.print : Int), .slice A2 r1.ids.length u2] 36)
  have B_6 := Lib.hid (B_5.out.trans (ha6.mono B_5.out.size))
  have X7_6 := Lib.hid (X7_5.out.below ha6 X7_5.out.lt)
  have E3_6 := Lib.hid (E3_5.out.below ha6)
  have X12_6 := Lib.hid (X12_5.out.below ha6 X12_5.out.lt)
  have V1_6 := Lib.hid (V1_5.out.below ha6)
  clear B_5 X7_5 E3_5 X12_5 V1_5
  have X14_6 : Hid (Box4 w5.heap.size (VT r1.name) (.int .i64 r1.len) (.int .u32 (r1.print : Int)) (.slice A2 r1.ids.length u2) (w5.alloc (.cells #[VT r1.name, .int .i64 r1.len, .int .u32 (r1.print : Int), .slice A2 r1.ids.length u2] 36))) := Lib.hid (Box4.mk' _ _ _ _ _ _)
  have SM := Lib.hid (SameRecipe_same _ _ r1 HO1.out (w5.alloc (.cells #[VT r1.name, .int .i64 r1.len, .int .u32 (r1.print : Int), .slice A2 r1.ids.length u2] 36)) V1_6.out (hv5.below ha6))
  clear hv5 hb5 ha6 V1_6
  obtain ⟨c0, c1, c2, c3, _⟩ := X12_6.out
  obtain ⟨d0, d1, d2, d3, _⟩ := X14_6.out
  go_wp2_with fail
  generalize (w5.alloc (.cells #[VT r1.name, .int .i64 r1.len, .int .u32 (r1.print : Int), .slice A2 r1.ids.length u2] 36)) = w6 at *
  refine SM.out.mono ?_
  rintro e w7 ⟨rfl, hb7⟩
  clear c0 c1 c2 c3 d0 d1 d2 d3
  have B_7 := Lib.hid (B_6.out.trans (hb7.mono B_6.out.size))
  have X7_7 := Lib.hid (X7_6.out.below hb7 X7_6.out.lt)
  have E3_7 := Lib.hid (E3_6.out.below hb7)
  have X12_7 := Lib.hid (X12_6.out.below hb7 X12_6.out.lt)
  have X14_7 := Lib.hid (X14_6.out.below hb7 X14_6.out.lt)
  clear B_6 X7_6 E3_6 X12_6 X14_6
  clear hb7 SM
  have CD := Lib.hid (coded1_any a x3 k1 k1 (-1) w7 (H.out.below B_7.out).s (evErrV E3_7.out (H.out.below B_7.out).s))
  rw [coded_yes] at CD
  clear E3_7
  go_wp2_with fail
  refine CD.out.mono ?_
  rintro e w8 ⟨rfl, hb8⟩
  have B_8 := Lib.hid (B_7.out.trans (hb8.mono B_7.out.size))
  have X7_8 := Lib.hid (X7_7.out.below hb8 X7_7.out.lt)
  have X12_8 := Lib.hid (X12_7.out.below hb8 X12_7.out.lt)
  have X14_8 := Lib.hid (X14_7.out.below hb8 X14_7.out.lt)
  clear B_7 X7_7 X12_7 X14_7
  have Mc := Lib.hid X14_8.out.lt
  clear hb8 CD
  obtain ⟨c0, c1, c2, c3, _⟩ := X7_8.out
  go_wp2_with fail
  refine (OwnRecipe_any _ r HRB.out.c w8 ((HV.out.below B_8.out))).mono ?_
  rintro e w9 ⟨v9, rfl, hs9, hb9⟩
  obtain ⟨A3, u3, rfl⟩ := hs9.v.form
  clear c0 c1 c2 c3
  have B_9 := Lib.hid (B_8.out.trans (hb9.mono B_8.out.size))
  have X7_9 := Lib.hid (X7_8.out.below hb9 X7_8.out.lt)
  have X12_9 := Lib.hid (X12_8.out.below hb9 X12_8.out.lt)
  have X14_9 := Lib.hid (X14_8.out.below hb9 X14_8.out.lt)
  clear B_8 X7_8 X12_8 X14_8
  have ha10 := (Below.refl w9.heap.size w9).alloc (Nat.le_refl _) (.cells #[VT r.name, .int .i64 r.len, .int .u32 (r.print : Int), .slice A3 r.ids.length u3] 36)
  have B_10 := Lib.hid (B_9.out.trans (ha10.mono B_9.out.size))
  have X7_10 := Lib.hid (X7_9.out.below ha10 X7_9.out.lt)
  have X12_10 := Lib.hid (X12_9.out.below ha10 X12_9.out.lt)
  have X14_10 := Lib.hid (X14_9.out.below ha10 X14_9.out.lt)
  clear B_9 X7_9 X12_9 X14_9
  have X17_10 : Hid (Box4 w9.heap.size (VT r.name) (.int .i64 r.len) (.int .u32 (r.print : Int)) (.slice A3 r.ids.length u3) (w9.alloc (.cells #[VT r.name, .int .i64 r.len, .int .u32 (r.print : Int), .slice A3 r.ids.length u3] 36))) := Lib.hid (Box4.mk' _ _ _ _ _ _)
  have S17_10 := Lib.hid (hs9.below ha10 (Nat.le_refl _))
  have M9 := Lib.hid hb9.size
  clear hs9 hb9 ha10
  obtain ⟨c0, c1, c2, c3, _⟩ := X7_10.out
  go_wp2_with fail
  generalize (w9.alloc (.cells #[VT r.name, .int .i64 r.len, .int .u32 (r.print : Int), .slice A3 r.ids.length u3] 36)) = w10 at *
  refine (RRecipeFault_any _ r HRB.out w10 ((HV.out.below B_10.out))).mono ?_
  rintro e w11 ⟨rfl, hb11⟩
  clear c0 c1 c2 c3
  have B_11 := Lib.hid (B_10.out.trans (hb11.mono B_10.out.size))
  have X7_11 := Lib.hid (X7_10.out.below hb11 X7_10.out.lt)
  have X12_11 := Lib.hid (X12_10.out.below hb11 X12_10.out.lt)
  have X14_11 := Lib.hid (X14_10.out.below hb11 X14_10.out.lt)
  have X17_11 := Lib.hid (X17_10.out.below hb11 X17_10.out.lt)
  have S17_11 := Lib.hid (S17_10.out.below hb11 (Nat.le_of_lt X17_10.out.lt))
  clear B_10 X7_10 X12_10 X14_10 X17_10 S17_10
  have M7 : Hid (w.heap.size < w3.heap.size ∧ w3.heap.size < w5.heap.size ∧ w5.heap.size < w8.heap.size ∧ w9.heap.size < w11.heap.size) := Lib.hid ⟨Ma.out, Mb.out, Mc.out, X17_11.out.lt⟩
  clear Ma Mb Mc
  have ha12 := (Below.refl w11.heap.size w11).alloc (Nat.le_refl _) (.cells #[.int .i64 (rcpFault r).1, .int .i64 (rcpFault r).2] 49)
  have B_12 := Lib.hid (B_11.out.trans (ha12.mono B_11.out.size))
  have X7_12 := Lib.hid (X7_11.out.below ha12 X7_11.out.lt)
  have X12_12 := Lib.hid (X12_11.out.below ha12 X12_11.out.lt)
  have X14_12 := Lib.hid (X14_11.out.below ha12 X14_11.out.lt)
  have X17_12 := Lib.hid (X17_11.out.below ha12 X17_11.out.lt)
  have S17_12 := Lib.hid (S17_11.out.below ha12 (Nat.le_of_lt X17_11.out.lt))
  clear B_11 X7_11 X12_11 X14_11 X17_11 S17_11
  have X18_12 : Hid (Box2 w11.heap.size (.int .i64 (rcpFault r).1) (.int .i64 (rcpFault r).2) (w11.alloc (.cells #[.int .i64 (rcpFault r).1, .int .i64 (rcpFault r).2] 49))) := Lib.hid (Box2.mk' _ _ _ _)
  have N18_12 : Hid ((w11.alloc (.cells #[.int .i64 (rcpFault r).1, .int .i64 (rcpFault r).2] 49)).cell? ⟨w11.heap.size, 2, none⟩ = none) := Lib.hid (by rw [World.cell?_alloc_at _ _ _ _ rfl]; rfl)
  clear hb11 ha12
  obtain ⟨c0, c1, c2, c3, _⟩ := X17_12.out
  have TX := Lib.hid (RcText_any a _ r HRB.out _ ((S17_12.out.v.more (Nat.le_of_lt X17_12.out.lt))) (H.out.below B_12.out).five (H.out.below B_12.out).t)
  go_wp2_with fail
  generalize (w11.alloc (.cells #[.int .i64 (rcpFault r).1, .int .i64 (rcpFault r).2] 49)) = w12 at *
  refine TX.out.mono ?_
  rintro e w13 ⟨x13, rfl, hev, hb13⟩
  clear c0 c1 c2 c3
  have B_13 := Lib.hid (B_12.out.trans (hb13.mono B_12.out.size))
  have X7_13 := Lib.hid (X7_12.out.below hb13 X7_12.out.lt)
  have X12_13 := Lib.hid (X12_12.out.below hb13 X12_12.out.lt)
  have X14_13 := Lib.hid (X14_12.out.below hb13 X14_12.out.lt)
  have X17_13 := Lib.hid (X17_12.out.below hb13 X17_12.out.lt)
  have S17_13 := Lib.hid (S17_12.out.below hb13 (Nat.le_of_lt X17_12.out.lt))
  have X18_13 := Lib.hid (X18_12.out.below hb13 X18_12.out.lt)
  have N18_13 := Lib.hid ((hb13.cell (p := ⟨w11.heap.size, 2, none⟩) X18_12.out.lt).trans N18_12.out)
  clear B_12 X7_12 X12_12 X14_12 X17_12 S17_12 X18_12 N18_12
  have E13_13 := Lib.hid hev
  clear hev hb13 TX
  obtain ⟨d0, d1, _, _⟩ := X18_13.out
  obtain ⟨c0, c1, c2, c3, _⟩ := X7_13.out
  rw [HTX.out]
  have hfi := HFI.out
  rw [show VT [] = .string ⟨#[]⟩ from rfl]
  go_wp2
  have hS0 : Below w13.heap.size w13 w13.drew := (Below.refl _ _).drew
  refine region_S (fun w' => Below w13.heap.size w13 w') 21 (by kernel_rfl) (by kernel_rfl) ?_
  refine take_S 0 rfl (by kernel_rfl) (by kernel_rfl) hS0 (fun w' hS => by obtain ⟨y0, y1, y2, y3, _⟩ := X17_13.out.below hS X17_13.out.lt; go_simp; rfl) ?_
  refine take_S 2 rfl (by kernel_rfl) (by kernel_rfl) hS0 (fun w' hS => by obtain ⟨y0, y1, _, _⟩ := X18_13.out.below hS X18_13.out.lt; go_simp; rfl) ?_
  refine carry_S 1 rfl (by kernel_rfl) (by decide) (by kernel_rfl) (fun K hK => ?_)
  go_simp
  refine (RcCheck_any a _ r HRB.out _ ((S17_13.out.below hS0 (Nat.le_of_lt X17_13.out.lt)).v.more (Nat.le_trans (Nat.le_of_lt X17_13.out.lt) hS0.size)) (H.out.below (B_13.out.trans (hS0.mono B_13.out.size))).five).mono ?_
  rintro e w15 ⟨x15, rfl, hev, hb15⟩
  have hS1 : Below w13.heap.size w13 w15 := hS0.trans hb15
  have hE15 := hev
  clear hev
  refine hK _ _ hS1 ?_
  clear hK K
  try simp only [Act.put, List.getElem_toArray, List.getElem_cons_succ, List.getElem_cons_zero, List.setIfInBounds_toArray, List.set_cons_zero, List.set_cons_succ]
  refine carry_S 3 rfl (by kernel_rfl) (by decide) (by kernel_rfl) (fun K hK => ?_)
  go_simp
  have FT := faulted1_any a x15 (rcpFault r).1 (rcpFault r).2 (rcpFault r).1 (rcpFault r).2 w15 (H.out.below (B_13.out.trans (hS1.mono B_13.out.size))).s (evErrV hE15 (H.out.below (B_13.out.trans (hS1.mono B_13.out.size))).s)
  rw [faulted_yes] at FT
  refine FT.mono ?_
  rintro e w16 ⟨rfl, hb16⟩
  have hS2 : Below w13.heap.size w13 w16 := hS1.trans (hb16.mono hS1.size)
  clear FT hE15
  refine hK _ _ hS2 ?_
  clear hK K
  try simp only [Act.put, List.getElem_toArray, List.getElem_cons_succ, List.getElem_cons_zero, List.setIfInBounds_toArray, List.set_cons_zero, List.set_cons_succ]
  refine take_S 4 rfl (by kernel_rfl) (by kernel_rfl) hS2 (fun w' hS => by go_simp; rfl) ?_
  refine take_S 5 rfl (by kernel_rfl) (by kernel_rfl) hS2 (fun w' hS => by go_simp; rfl) ?_
  refine take_S 6 rfl (by kernel_rfl) (by kernel_rfl) hS2 (fun w' hS => by go_simp; rfl) ?_
  refine take_S 7 rfl (by kernel_rfl) (by kernel_rfl) hS2 (fun w' hS => by obtain ⟨y0, y1, _, _⟩ := X18_13.out.below hS X18_13.out.lt; go_simp; rfl) ?_
  refine carry_S 8 rfl (by kernel_rfl) (by decide) (by kernel_rfl) (fun K hK => ?_)
  go_simp
  have hE13 := E13_13.out.below hS2
  have FT := faulted1_any a x13 (rcpFault r).1 (rcpFault r).2 (rcpFault r).1 (rcpFault r).2 w16 (H.out.below (B_13.out.trans (hS2.mono B_13.out.size))).s (evErrV hE13 (H.out.below (B_13.out.trans (hS2.mono B_13.out.size))).s)
  rw [faulted_yes] at FT
  refine FT.mono ?_
  rintro e w17 ⟨rfl, hb17⟩
  have hS3 : Below w13.heap.size w13 w17 := hS2.trans (hb17.mono hS2.size)
  clear FT hE13
  refine hK _ _ hS3 ?_
  clear hK K
  try simp only [Act.put, List.getElem_toArray, List.getElem_cons_succ, List.getElem_cons_zero, List.setIfInBounds_toArray, List.set_cons_zero, List.set_cons_succ]
  refine take_S 9 rfl (by kernel_rfl) (by kernel_rfl) hS3 (fun w' hS => by go_simp; rfl) ?_
  refine take_S 10 rfl (by kernel_rfl) (by kernel_rfl) hS3 (fun w' hS => by go_simp; rfl) ?_
  refine take_S 11 rfl (by kernel_rfl) (by kernel_rfl) hS3 (fun w' hS => by go_simp; rfl) ?_
  refine take_S 12 rfl (by kernel_rfl) (by kernel_rfl) hS3 (fun w' hS => by go_simp; rfl) ?_
  refine take_S 13 rfl (by kernel_rfl) (by kernel_rfl) hS3 (fun w' hS => by go_simp; rfl) ?_
  refine take_S 14 rfl (by kernel_rfl) (by kernel_rfl) hS3 (fun w' hS => by go_simp; rfl) ?_
  refine take_S 15 rfl (by kernel_rfl) (by kernel_rfl) hS3 (fun w' hS => by go_simp; rfl) ?_
  refine take_S 16 rfl (by kernel_rfl) (by kernel_rfl) hS3 (fun w' hS => by go_simp; rfl) ?_
  refine take_S 17 rfl (by kernel_rfl) (by kernel_rfl) hS3 (fun w' hS => by obtain ⟨y0, y1, y2, y3, _⟩ := X17_13.out.below hS X17_13.out.lt; go_simp; rfl) ?_
  refine take_S 19 rfl (by kernel_rfl) (by kernel_rfl) hS3 (fun w' hS => by obtain ⟨y0, y1, y2, y3, _⟩ := X7_13.out.below hS X7_13.out.lt; go_simp; rfl) ?_
  refine carry_S 18 rfl (by kernel_rfl) (by decide) (by kernel_rfl) (fun K hK => ?_)
  go_simp
  refine (RcRep_any _ r HRB.out.c _ ((S17_13.out.below hS3 (Nat.le_of_lt X17_13.out.lt)).v.more (Nat.le_trans (Nat.le_of_lt X17_13.out.lt) hS3.size))).mono ?_
  rintro e w18 ⟨rfl, hb18⟩
  have hS4 : Below w13.heap.size w13 w18 := hS3.trans (hb18.mono hS3.size)
  refine hK _ _ hS4 ?_
  clear hK K
  try simp only [Act.put, List.getElem_toArray, List.getElem_cons_succ, List.getElem_cons_zero, List.setIfInBounds_toArray, List.set_cons_zero, List.set_cons_succ]
  refine carry_S 20 rfl (by kernel_rfl) (by decide) (by kernel_rfl) (fun K hK => ?_)
  go_simp
  refine (RRepOf_any _ r HRB.out.c _ (HV.out.below (B_13.out.trans (hS4.mono B_13.out.size)))).mono ?_
  rintro e w19 ⟨rfl, hb19⟩
  have hS5 : Below w13.heap.size w13 w19 := hS4.trans (hb19.mono hS4.size)
  refine hK _ _ hS5 (forced_S (by kernel_rfl) ?_)
  clear hK K
  try simp only [Act.put, List.getElem_toArray, List.getElem_cons_succ, List.getElem_cons_zero, List.setIfInBounds_toArray, List.set_cons_zero, List.set_cons_succ]
  simp only [List.drop_succ_cons, List.drop_zero]
  clear E13_13
  have B_19 := Lib.hid (B_13.out.trans (hS5.mono B_13.out.size))
  have X7_19 := Lib.hid (X7_13.out.below hS5 X7_13.out.lt)
  have X12_19 := Lib.hid (X12_13.out.below hS5 X12_13.out.lt)
  have X14_19 := Lib.hid (X14_13.out.below hS5 X14_13.out.lt)
  have X17_19 := Lib.hid (X17_13.out.below hS5 X17_13.out.lt)
  have S17_19 := Lib.hid (S17_13.out.below hS5 (Nat.le_of_lt X17_13.out.lt))
  have X18_19 := Lib.hid (X18_13.out.below hS5 X18_13.out.lt)
  have N18_19 := Lib.hid ((hS5.cell (p := ⟨w11.heap.size, 2, none⟩) X18_13.out.lt).trans N18_13.out)
  clear B_13 X7_13 X12_13 X14_13 X17_13 S17_13 X18_13 N18_13
  clear hS0 hS1 hS2 hS3 hS4 hS5 hb15 hb16 hb17 hb18 hb19
  go_wp2_with fail
  refine (RcRead_any a t (by have := HTZ.out; omega) w19 (H.out.below B_19.out).rc).mono ?_
  rintro e w20 ⟨v20, x20, rfl, hev, hs20, hb20⟩
  rw [HE2.out] at hev
  rw [HR2.out] at hs20
  obtain ⟨A4, u4, rfl⟩ := hs20.v.form
  have M20 := Lib.hid hb20.size
  have M19 := Lib.hid X18_19.out.lt
  have B_20 := Lib.hid (B_19.out.trans (hb20.mono B_19.out.size))
  have X7_20 := Lib.hid (X7_19.out.below hb20 X7_19.out.lt)
  have X12_20 := Lib.hid (X12_19.out.below hb20 X12_19.out.lt)
  have X14_20 := Lib.hid (X14_19.out.below hb20 X14_19.out.lt)
  have X17_20 := Lib.hid (X17_19.out.below hb20 X17_19.out.lt)
  have S17_20 := Lib.hid (S17_19.out.below hb20 (Nat.le_of_lt X17_19.out.lt))
  have X18_20 := Lib.hid (X18_19.out.below hb20 X18_19.out.lt)
  have N18_20 := Lib.hid ((hb20.cell (p := ⟨w11.heap.size, 2, none⟩) X18_19.out.lt).trans N18_19.out)
  clear B_19 X7_19 X12_19 X14_19 X17_19 S17_19 X18_19 N18_19
  have E20_20 := Lib.hid hev
  have S20_20 := Lib.hid hs20
  clear hev hs20 hb20
  obtain ⟨c0, c1, c2, c3, hf⟩ := X12_20.out
  have f0 := hf 0
  have f1 := hf 1
  have f2 := hf 2
  have f3 := hf 3
  clear hf
  have B_21 := Lib.hid (below_set4 (b := w3.heap.size) B_20.out (by have := M7.out; have := M9.out; have := M19.out; have := M20.out; omega) (VT r2.name) (.int .i64 r2.len) (.int .u32 (r2.print : Int)) (.slice A4 r2.ids.length u4))
  have X7_21 := Lib.hid (X7_20.out.set4F (d := w3.heap.size) (by have := M7.out; have := M9.out; have := M19.out; have := M20.out; omega) (VT r2.name) (.int .i64 r2.len) (.int .u32 (r2.print : Int)) (.slice A4 r2.ids.length u4))
  have X12_21 := Lib.hid (X12_20.out.set (VT r2.name) (.int .i64 r2.len) (.int .u32 (r2.print : Int)) (.slice A4 r2.ids.length u4))
  have X14_21 := Lib.hid (X14_20.out.set4F (d := w3.heap.size) (by have := M7.out; have := M9.out; have := M19.out; have := M20.out; omega) (VT r2.name) (.int .i64 r2.len) (.int .u32 (r2.print : Int)) (.slice A4 r2.ids.length u4))
  have X17_21 := Lib.hid (X17_20.out.set4F (d := w3.heap.size) (by have := M7.out; have := M9.out; have := M19.out; have := M20.out; omega) (VT r2.name) (.int .i64 r2.len) (.int .u32 (r2.print : Int)) (.slice A4 r2.ids.length u4))
  have S17_21 := Lib.hid (S17_20.out.set4F (d := w3.heap.size) (by have := M7.out; have := M9.out; have := M19.out; have := M20.out; omega) (VT r2.name) (.int .i64 r2.len) (.int .u32 (r2.print : Int)) (.slice A4 r2.ids.length u4))
  have X18_21 := Lib.hid (X18_20.out.set4F (d := w3.heap.size) (by have := M7.out; have := M9.out; have := M19.out; have := M20.out; omega) (VT r2.name) (.int .i64 r2.len) (.int .u32 (r2.print : Int)) (.slice A4 r2.ids.length u4))
  have N18_21 := Lib.hid ((cell_set4 (b := w3.heap.size) w20 (VT r2.name) (.int .i64 r2.len) (.int .u32 (r2.print : Int)) (.slice A4 r2.ids.length u4) (p := ⟨w11.heap.size, 2, none⟩) (by show w11.heap.size ≠ w3.heap.size; have := M7.out; have := M9.out; have := M19.out; have := M20.out; omega)).trans N18_20.out)
  have E20_21 := Lib.hid (ev_set4 E20_20.out X12_20.out (VT r2.name) (.int .i64 r2.len) (.int .u32 (r2.print : Int)) (.slice A4 r2.ids.length u4))
  have S20_21 := Lib.hid (S20_20.out.set4F (d := w3.heap.size) (by have := M7.out; have := M9.out; have := M19.out; have := M20.out; omega) (VT r2.name) (.int .i64 r2.len) (.int .u32 (r2.print : Int)) (.slice A4 r2.ids.length u4))
  clear B_20 X7_20 X12_20 X14_20 X17_20 S17_20 X18_20 N18_20 E20_20 S20_20
  have Z21 : Hid (((((w20.setCell ⟨w3.heap.size, 0, none⟩ (VT r2.name)).setCell ⟨w3.heap.size, 1, none⟩ (.int .i64 r2.len)).setCell ⟨w3.heap.size, 2, none⟩ (.int .u32 (r2.print : Int))).setCell ⟨w3.heap.size, 3, none⟩ (.slice A4 r2.ids.length u4)).heap.size = w20.heap.size) := Lib.hid (size_set4 _ _ _ _ _ _)
  go_wp2_with fail
  generalize ((((w20.setCell ⟨w3.heap.size, 0, none⟩ (VT r2.name)).setCell ⟨w3.heap.size, 1, none⟩ (.int .i64 r2.len)).setCell ⟨w3.heap.size, 2, none⟩ (.int .u32 (r2.print : Int))).setCell ⟨w3.heap.size, 3, none⟩ (.slice A4 r2.ids.length u4)) = w21 at *
  clear c0 c1 c2 c3 f0 f1 f2 f3
  refine (RReadRecipe_any t (by have := HTZ.out; omega) w21).mono ?_
  rintro e w22 ⟨v22, rfl, hs22, hb22⟩
  rw [HE2.out]
  rw [HR2.out] at hs22
  obtain ⟨A5, u5, rfl⟩ := hs22.v.form
  have B_22 := Lib.hid (B_21.out.trans (hb22.mono B_21.out.size))
  have X7_22 := Lib.hid (X7_21.out.below hb22 X7_21.out.lt)
  have X12_22 := Lib.hid (X12_21.out.below hb22 X12_21.out.lt)
  have X14_22 := Lib.hid (X14_21.out.below hb22 X14_21.out.lt)
  have X17_22 := Lib.hid (X17_21.out.below hb22 X17_21.out.lt)
  have S17_22 := Lib.hid (S17_21.out.below hb22 (Nat.le_of_lt X17_21.out.lt))
  have X18_22 := Lib.hid (X18_21.out.below hb22 X18_21.out.lt)
  have N18_22 := Lib.hid ((hb22.cell (p := ⟨w11.heap.size, 2, none⟩) X18_21.out.lt).trans N18_21.out)
  have E20_22 := Lib.hid (E20_21.out.below hb22)
  have S20_22 := Lib.hid (S20_21.out.below hb22 (Nat.le_of_eq Z21.out.symm))
  clear B_21 X7_21 X12_21 X14_21 X17_21 S17_21 X18_21 N18_21 E20_21 S20_21
  have M22 := Lib.hid hb22.size
  have S22_22 := Lib.hid hs22
  clear hs22 hb22
  obtain ⟨c0, c1, c2, c3, hf⟩ := X14_22.out
  have f0 := hf 0
  have f1 := hf 1
  have f2 := hf 2
  have f3 := hf 3
  clear hf
  obtain ⟨d0, d1, g0, g1⟩ := X18_22.out
  have B_a := Lib.hid (below_set4 (b := w5.heap.size) B_22.out (by have := M7.out; have := M9.out; have := M19.out; have := M20.out; have := M22.out; have := Z21.out; omega) (VT r2.name) (.int .i64 r2.len) (.int .u32 (r2.print : Int)) (.slice A5 r2.ids.length u5))
  have X7_a := Lib.hid (X7_22.out.set4F (d := w5.heap.size) (by have := M7.out; have := M9.out; have := M19.out; have := M20.out; have := M22.out; have := Z21.out; omega) (VT r2.name) (.int .i64 r2.len) (.int .u32 (r2.print : Int)) (.slice A5 r2.ids.length u5))
  have X12_a := Lib.hid (X12_22.out.set4F (d := w5.heap.size) (by have := M7.out; have := M9.out; have := M19.out; have := M20.out; have := M22.out; have := Z21.out; omega) (VT r2.name) (.int .i64 r2.len) (.int .u32 (r2.print : Int)) (.slice A5 r2.ids.length u5))
  have X14_a := Lib.hid (X14_22.out.set (VT r2.name) (.int .i64 r2.len) (.int .u32 (r2.print : Int)) (.slice A5 r2.ids.length u5))
  have X17_a := Lib.hid (X17_22.out.set4F (d := w5.heap.size) (by have := M7.out; have := M9.out; have := M19.out; have := M20.out; have := M22.out; have := Z21.out; omega) (VT r2.name) (.int .i64 r2.len) (.int .u32 (r2.print : Int)) (.slice A5 r2.ids.length u5))
  have S17_a := Lib.hid (S17_22.out.set4F (d := w5.heap.size) (by have := M7.out; have := M9.out; have := M19.out; have := M20.out; have := M22.out; have := Z21.out; omega) (VT r2.name) (.int .i64 r2.len) (.int .u32 (r2.print : Int)) (.slice A5 r2.ids.length u5))
  have X18_a := Lib.hid (X18_22.out.set4F (d := w5.heap.size) (by have := M7.out; have := M9.out; have := M19.out; have := M20.out; have := M22.out; have := Z21.out; omega) (VT r2.name) (.int .i64 r2.len) (.int .u32 (r2.print : Int)) (.slice A5 r2.ids.length u5))
  have N18_a := Lib.hid ((cell_set4 (b := w5.heap.size) w22 (VT r2.name) (.int .i64 r2.len) (.int .u32 (r2.print : Int)) (.slice A5 r2.ids.length u5) (p := ⟨w11.heap.size, 2, none⟩) (by show w11.heap.size ≠ w5.heap.size; have := M7.out; have := M9.out; have := M19.out; have := M20.out; have := M22.out; have := Z21.out; omega)).trans N18_22.out)
  have E20_a := Lib.hid (ev_set4 E20_22.out X14_22.out (VT r2.name) (.int .i64 r2.len) (.int .u32 (r2.print : Int)) (.slice A5 r2.ids.length u5))
  have S20_a := Lib.hid (S20_22.out.set4F (d := w5.heap.size) (by have := M7.out; have := M9.out; have := M19.out; have := M20.out; have := M22.out; have := Z21.out; omega) (VT r2.name) (.int .i64 r2.len) (.int .u32 (r2.print : Int)) (.slice A5 r2.ids.length u5))
  have S22_a := Lib.hid (S22_22.out.set4F (d := w5.heap.size) (by have := M7.out; have := M9.out; have := M19.out; have := M20.out; have := M22.out; have := Z21.out; omega) (VT r2.name) (.int .i64 r2.len) (.int .u32 (r2.print : Int)) (.slice A5 r2.ids.length u5))
  clear B_22 X7_22 X12_22 X14_22 X17_22 S17_22 X18_22 N18_22 E20_22 S20_22 S22_22
  have Za : Hid (((((w22.setCell ⟨w5.heap.size, 0, none⟩ (VT r2.name)).setCell ⟨w5.heap.size, 1, none⟩ (.int .i64 r2.len)).setCell ⟨w5.heap.size, 2, none⟩ (.int .u32 (r2.print : Int))).setCell ⟨w5.heap.size, 3, none⟩ (.slice A5 r2.ids.length u5)).heap.size = w22.heap.size) := Lib.hid (size_set4 _ _ _ _ _ _)
  generalize hwa : ((((w22.setCell ⟨w5.heap.size, 0, none⟩ (VT r2.name)).setCell ⟨w5.heap.size, 1, none⟩ (.int .i64 r2.len)).setCell ⟨w5.heap.size, 2, none⟩ (.int .u32 (r2.print : Int))).setCell ⟨w5.heap.size, 3, none⟩ (.slice A5 r2.ids.length u5)) = wa at *
  have HWA := Lib.hid hwa
  clear hwa
  have B_23 := Lib.hid (below_set2 (b := w11.heap.size) B_a.out (by have := M7.out; have := M9.out; have := M19.out; have := M20.out; have := M22.out; have := Z21.out; omega) (.int .i64 k2) (.int .i64 p2))
  have X7_23 := Lib.hid (X7_a.out.set2F (d := w11.heap.size) (by have := M7.out; have := M9.out; have := M19.out; have := M20.out; have := M22.out; have := Z21.out; omega) (.int .i64 k2) (.int .i64 p2))
  have X12_23 := Lib.hid (X12_a.out.set2F (d := w11.heap.size) (by have := M7.out; have := M9.out; have := M19.out; have := M20.out; have := M22.out; have := Z21.out; omega) (.int .i64 k2) (.int .i64 p2))
  have X14_23 := Lib.hid (X14_a.out.set2F (d := w11.heap.size) (by have := M7.out; have := M9.out; have := M19.out; have := M20.out; have := M22.out; have := Z21.out; omega) (.int .i64 k2) (.int .i64 p2))
  have X17_23 := Lib.hid (X17_a.out.set2F (d := w11.heap.size) (by have := M7.out; have := M9.out; have := M19.out; have := M20.out; have := M22.out; have := Z21.out; omega) (.int .i64 k2) (.int .i64 p2))
  have S17_23 := Lib.hid (S17_a.out.set2F (d := w11.heap.size) (by have := M7.out; have := M9.out; have := M19.out; have := M20.out; have := M22.out; have := Z21.out; omega) (.int .i64 k2) (.int .i64 p2))
  have X18_23 := Lib.hid (X18_a.out.set (.int .i64 k2) (.int .i64 p2))
  have E20_23 := Lib.hid (ev_set2 E20_a.out X18_a.out N18_a.out (.int .i64 k2) (.int .i64 p2))
  have S20_23 := Lib.hid (S20_a.out.set2F (d := w11.heap.size) (by have := M7.out; have := M9.out; have := M19.out; have := M20.out; have := M22.out; have := Z21.out; omega) (.int .i64 k2) (.int .i64 p2))
  have S22_23 := Lib.hid (S22_a.out.set2F (d := w11.heap.size) (by have := M7.out; have := M9.out; have := M19.out; have := M20.out; have := M22.out; have := Z21.out; omega) (.int .i64 k2) (.int .i64 p2))
  clear B_a X7_a X12_a X14_a X17_a S17_a X18_a E20_a S20_a S22_a
  have N18_23 : Hid (((wa.setCell ⟨w11.heap.size, 0, none⟩ (.int .i64 k2)).setCell ⟨w11.heap.size, 1, none⟩ (.int .i64 p2)).cell? ⟨w11.heap.size, 2, none⟩ = none) := Lib.hid (cell2_keep N18_a.out _ _)
  clear N18_a
  have Z23 : Hid (((wa.setCell ⟨w11.heap.size, 0, none⟩ (.int .i64 k2)).setCell ⟨w11.heap.size, 1, none⟩ (.int .i64 p2)).heap.size = wa.heap.size) := Lib.hid (by simp [World.setCell])
  obtain ⟨x0, x1, x2, x3, _⟩ := X12_23.out
  obtain ⟨y0, y1, y2, y3, _⟩ := X14_23.out
  have HW23 : Hid (((((((w22.setCell ⟨w5.heap.size, 0, none⟩ (VT r2.name)).setCell ⟨w5.heap.size, 1, none⟩ (.int .i64 r2.len)).setCell ⟨w5.heap.size, 2, none⟩ (.int .u32 (r2.print : Int))).setCell ⟨w5.heap.size, 3, none⟩ (.slice A5 r2.ids.length u5)).setCell ⟨w11.heap.size, 0, none⟩ (.int .i64 k2)).setCell ⟨w11.heap.size, 1, none⟩ (.int .i64 p2)) = ((wa.setCell ⟨w11.heap.size, 0, none⟩ (.int .i64 k2)).setCell ⟨w11.heap.size, 1, none⟩ (.int .i64 p2))) := Lib.hid (by rw [HWA.out])
  rw [← HWA.out] at x0 x1 x2 x3 y0 y1 y2 y3
  have SM := Lib.hid (SameRecipe_same (.agg #[VT r2.name, .int .i64 r2.len, .int .u32 (r2.print : Int), .slice A4 r2.ids.length u4]) (.agg #[VT r2.name, .int .i64 r2.len, .int .u32 (r2.print : Int), .slice A5 r2.ids.length u5]) r2 HRV.out ((wa.setCell ⟨w11.heap.size, 0, none⟩ (.int .i64 k2)).setCell ⟨w11.heap.size, 1, none⟩ (.int .i64 p2)) (S20_23.out.v.more (by rw [Z23.out, Za.out]; have := M22.out; have := Z21.out; omega)) (S22_23.out.v.more (by rw [Z23.out, Za.out]; exact Nat.le_refl _)))
  have na0 : ¬ (w3.heap.size = w5.heap.size) := by have := M7.out; have := M9.out; have := M19.out; have := M20.out; have := M22.out; have := Z21.out; omega
  have nb0 : ¬ (w5.heap.size = w3.heap.size) := by have := M7.out; have := M9.out; have := M19.out; have := M20.out; have := M22.out; have := Z21.out; omega
  have na1 : ¬ (w3.heap.size = w11.heap.size) := by have := M7.out; have := M9.out; have := M19.out; have := M20.out; have := M22.out; have := Z21.out; omega
  have nb1 : ¬ (w11.heap.size = w3.heap.size) := by have := M7.out; have := M9.out; have := M19.out; have := M20.out; have := M22.out; have := Z21.out; omega
  have na2 : ¬ (w5.heap.size = w11.heap.size) := by have := M7.out; have := M9.out; have := M19.out; have := M20.out; have := M22.out; have := Z21.out; omega
  have nb2 : ¬ (w11.heap.size = w5.heap.size) := by have := M7.out; have := M9.out; have := M19.out; have := M20.out; have := M22.out; have := Z21.out; omega
  go_wp2_with fail
  clear na0 na1 na2 nb0 nb1 nb2
  rw [HW23.out]
  generalize ((wa.setCell ⟨w11.heap.size, 0, none⟩ (.int .i64 k2)).setCell ⟨w11.heap.size, 1, none⟩ (.int .i64 p2)) = w23 at *
  clear x0 x1 x2 x3 y0 y1 y2 y3 c0 c1 c2 c3 f0 f1 f2 f3 d0 d1 g0 g1
  refine SM.out.mono ?_
  rintro e w24 ⟨rfl, hb24⟩
  clear SM S20_23 S22_23
  have B_24 := Lib.hid (B_23.out.trans (hb24.mono B_23.out.size))
  have X7_24 := Lib.hid (X7_23.out.below hb24 X7_23.out.lt)
  have X12_24 := Lib.hid (X12_23.out.below hb24 X12_23.out.lt)
  have X14_24 := Lib.hid (X14_23.out.below hb24 X14_23.out.lt)
  have X17_24 := Lib.hid (X17_23.out.below hb24 X17_23.out.lt)
  have S17_24 := Lib.hid (S17_23.out.below hb24 (Nat.le_of_lt X17_23.out.lt))
  have X18_24 := Lib.hid (X18_23.out.below hb24 X18_23.out.lt)
  have N18_24 := Lib.hid ((hb24.cell (p := ⟨w11.heap.size, 2, none⟩) X18_23.out.lt).trans N18_23.out)
  have E20_24 := Lib.hid (E20_23.out.below hb24)
  clear B_23 X7_23 X12_23 X14_23 X17_23 S17_23 X18_23 N18_23 E20_23
  clear hb24
  have FT := Lib.hid (faulted1_any a x20 k2 p2 k2 p2 w24 (H.out.below B_24.out).s (evErrV E20_24.out (H.out.below B_24.out).s))
  rw [faulted_yes] at FT
  obtain ⟨d0, d1, _, _⟩ := X18_24.out
  go_wp2_with fail
  refine FT.out.mono ?_
  rintro e w25 ⟨rfl, hb25⟩
  clear FT d0 d1 E20_24
  have B_25 := Lib.hid (B_24.out.trans (hb25.mono B_24.out.size))
  have X7_25 := Lib.hid (X7_24.out.below hb25 X7_24.out.lt)
  have X12_25 := Lib.hid (X12_24.out.below hb25 X12_24.out.lt)
  have X14_25 := Lib.hid (X14_24.out.below hb25 X14_24.out.lt)
  have X17_25 := Lib.hid (X17_24.out.below hb25 X17_24.out.lt)
  have S17_25 := Lib.hid (S17_24.out.below hb25 (Nat.le_of_lt X17_24.out.lt))
  have X18_25 := Lib.hid (X18_24.out.below hb25 X18_24.out.lt)
  have N18_25 := Lib.hid ((hb25.cell (p := ⟨w11.heap.size, 2, none⟩) X18_24.out.lt).trans N18_24.out)
  clear B_24 X7_24 X12_24 X14_24 X17_24 S17_24 X18_24 N18_24
  clear hb25
  go_wp2
  go_loopg [21] ls.length (fun gh vi wr => ∃ k : Nat, vi = .int .i64 k ∧ k ≤ ls.length ∧ gh = ls.length - k ∧ (∀ p ∈ ls.take k, p.length ≤ 100) ∧ w25 = wr)
  case atStart => exact ⟨0, rfl, Nat.zero_le _, rfl, (fun p hp => by rw [List.take_zero] at hp; cases hp), rfl⟩
  case round =>
    obtain ⟨k, rfl, hk, hgm, hall, rfl⟩ := hrel
    have HALL := Lib.hid hall
    clear hall
    by_cases hkl : k < ls.length
    · obtain ⟨gl, ol, rfl, hgl, hxl⟩ := HLX.out (by intro e; have := congrArg List.length e; rw [List.length_map] at this; simp at this; rw [this] at hkl; exact absurd hkl (Nat.not_lt_zero _))
      have z0 : w.cell? ⟨gl, ol + k, none⟩ = some (.string (bs ls[k])) := hxl k _ (by simp [hkl])
      have z1 := (B_25.out.cell (p := ⟨gl, ol + k, none⟩) hgl).trans z0
      have b1 : (0 : Int) ≤ (k : Int) := by omega
      have b2 : (k : Int) < (ls.length : Int) := by omega
      have HBZ := Lib.hid (bs_size ls[k])
      clear hxl z0
      by_cases hlong : 100 < (bs ls[k]).size
      · have hli : ((bs ls[k]).size : Int) > 100 := by omega
        go_wp2
        go_ret
        exact ⟨rfl, B_25.out⟩
      · have hli : ¬ ((bs ls[k]).size : Int) > 100 := by omega
        have HN : Hid (∀ p ∈ ls.take (k + 1), p.length ≤ 100) := Lib.hid (fun p hp => by
          rw [List.take_succ_eq_append_getElem hkl, List.mem_append] at hp
          rcases hp with hp | hp
          · exact HALL.out p hp
          · rw [List.mem_singleton] at hp; rw [hp, ← HBZ.out]; omega)
        clear hlong
        go_wp2
        go_roundg (ls.length - (k + 1))
        case measure => omega
        case rel => exact ⟨k + 1, by go_num, hkl, rfl, HN.out, rfl⟩
    · obtain rfl : k = ls.length := by omega
      have HSZ : Hid (∀ p ∈ ls, p.length ≤ 1000000) := Lib.hid (fun p hp => by have := HALL.out p (by rw [List.take_length]; exact hp); omega)
      clear HALL
      obtain ⟨c0, c1, c2, c3, _⟩ := X17_25.out
      have JN := Lib.hid (RcJoin_any a _ (.slice Al ls.length cl) r HRB.out ls (by have := HLL.out; omega) HSZ.out w25 ((S17_25.out.v.more (Nat.le_of_lt X17_25.out.lt))) ((HL.out.below B_25.out).more B_25.out.size) (H.out.below B_25.out).five)
      go_wp2_with fail
      refine JN.out.mono ?_
      rintro e w26 ⟨x26, rfl, hev, hb26⟩
      clear c0 c1 c2 c3 JN
      have B_26 := Lib.hid (B_25.out.trans (hb26.mono B_25.out.size))
      have X7_26 := Lib.hid (X7_25.out.below hb26 X7_25.out.lt)
      have X12_26 := Lib.hid (X12_25.out.below hb26 X12_25.out.lt)
      have X14_26 := Lib.hid (X14_25.out.below hb26 X14_25.out.lt)
      have X17_26 := Lib.hid (X17_25.out.below hb26 X17_25.out.lt)
      have S17_26 := Lib.hid (S17_25.out.below hb26 (Nat.le_of_lt X17_25.out.lt))
      have X18_26 := Lib.hid (X18_25.out.below hb26 X18_25.out.lt)
      have N18_26 := Lib.hid ((hb26.cell (p := ⟨w11.heap.size, 2, none⟩) X18_25.out.lt).trans N18_25.out)
      clear B_25 X7_25 X12_25 X14_25 X17_25 S17_25 X18_25 N18_25
      have E26_26 := Lib.hid hev
      clear hev hb26
      obtain ⟨c0, c1, c2, c3, _⟩ := X7_26.out
      have JR := Lib.hid (RJoinOf_any _ (.slice Al ls.length cl) r HRB.out ls (by have := HLL.out; omega) HSZ.out w26 ((HV.out.below B_26.out)) ((HL.out.below B_26.out).more B_26.out.size))
      go_wp2_with fail
      refine JR.out.mono ?_
      rintro e w27 ⟨rfl, hb27⟩
      clear c0 c1 c2 c3 JR
      have B_27 := Lib.hid (B_26.out.trans (hb27.mono B_26.out.size))
      have X7_27 := Lib.hid (X7_26.out.below hb27 X7_26.out.lt)
      have X12_27 := Lib.hid (X12_26.out.below hb27 X12_26.out.lt)
      have X14_27 := Lib.hid (X14_26.out.below hb27 X14_26.out.lt)
      have X17_27 := Lib.hid (X17_26.out.below hb27 X17_26.out.lt)
      have S17_27 := Lib.hid (S17_26.out.below hb27 (Nat.le_of_lt X17_26.out.lt))
      have X18_27 := Lib.hid (X18_26.out.below hb27 X18_26.out.lt)
      have N18_27 := Lib.hid ((hb27.cell (p := ⟨w11.heap.size, 2, none⟩) X18_26.out.lt).trans N18_26.out)
      have E26_27 := Lib.hid (E26_26.out.below hb27)
      clear B_26 X7_26 X12_26 X14_26 X17_26 S17_26 X18_26 N18_26 E26_26
      clear hb27
      generalize joinRes r ls = j at *
      obtain ⟨jt, jc, jp⟩ := j
      obtain ⟨d0, d1, g0, g1⟩ := X18_27.out
      have B_28 := Lib.hid (below_set2 (b := w11.heap.size) B_27.out (by have := M7.out; have := M9.out; omega) (.int .i64 jc) (.int .i64 jp))
      have X7_28 := Lib.hid (X7_27.out.set2F (d := w11.heap.size) (by have := M7.out; have := M9.out; omega) (.int .i64 jc) (.int .i64 jp))
      have X12_28 := Lib.hid (X12_27.out.set2F (d := w11.heap.size) (by have := M7.out; have := M9.out; omega) (.int .i64 jc) (.int .i64 jp))
      have X14_28 := Lib.hid (X14_27.out.set2F (d := w11.heap.size) (by have := M7.out; have := M9.out; omega) (.int .i64 jc) (.int .i64 jp))
      have X17_28 := Lib.hid (X17_27.out.set2F (d := w11.heap.size) (by have := M7.out; have := M9.out; omega) (.int .i64 jc) (.int .i64 jp))
      have S17_28 := Lib.hid (S17_27.out.set2F (d := w11.heap.size) (by have := M7.out; have := M9.out; omega) (.int .i64 jc) (.int .i64 jp))
      have X18_28 := Lib.hid (X18_27.out.set (.int .i64 jc) (.int .i64 jp))
      have E26_28 := Lib.hid (ev_set2 E26_27.out X18_27.out N18_27.out (.int .i64 jc) (.int .i64 jp))
      clear B_27 X7_27 X12_27 X14_27 X17_27 S17_27 X18_27 E26_27
      have hnm := HNZ.out
      go_wp2_with fail
      generalize ((w27.setCell ⟨w11.heap.size, 0, none⟩ (.int .i64 jc)).setCell ⟨w11.heap.size, 1, none⟩ (.int .i64 jp)) = w28 at *
      clear d0 d1 g0 g1 N18_27
      refine (RIsName_any n (by omega) w28).mono ?_
      rintro e w29 ⟨rfl, hw29⟩
      have hb29 : Below w28.heap.size w28 w29 := by rw [← hw29]; exact Below.refl _ _
      have B_29 := Lib.hid (B_28.out.trans (hb29.mono B_28.out.size))
      have X7_29 := Lib.hid (X7_28.out.below hb29 X7_28.out.lt)
      have X12_29 := Lib.hid (X12_28.out.below hb29 X12_28.out.lt)
      have X14_29 := Lib.hid (X14_28.out.below hb29 X14_28.out.lt)
      have X17_29 := Lib.hid (X17_28.out.below hb29 X17_28.out.lt)
      have S17_29 := Lib.hid (S17_28.out.below hb29 (Nat.le_of_lt X17_28.out.lt))
      have X18_29 := Lib.hid (X18_28.out.below hb29 X18_28.out.lt)
      have E26_29 := Lib.hid (E26_28.out.below hb29)
      clear B_28 X7_28 X12_28 X14_28 X17_28 S17_28 X18_28 E26_28
      clear hb29 hw29
      have FT := Lib.hid (faulted1_any a x26 jc jp jc jp w29 (H.out.below B_29.out).s (evErrV E26_29.out (H.out.below B_29.out).s))
      rw [faulted_yes] at FT
      obtain ⟨d0, d1, _, _⟩ := X18_29.out
      go_wp2_with fail
      refine FT.out.mono ?_
      rintro e w30 ⟨rfl, hb30⟩
      have B_30 := Lib.hid (B_29.out.trans (hb30.mono B_29.out.size))
      have X7_30 := Lib.hid (X7_29.out.below hb30 X7_29.out.lt)
      have X12_30 := Lib.hid (X12_29.out.below hb30 X12_29.out.lt)
      have X14_30 := Lib.hid (X14_29.out.below hb30 X14_29.out.lt)
      have X17_30 := Lib.hid (X17_29.out.below hb30 X17_29.out.lt)
      have S17_30 := Lib.hid (S17_29.out.below hb30 (Nat.le_of_lt X17_29.out.lt))
      have X18_30 := Lib.hid (X18_29.out.below hb30 X18_29.out.lt)
      have E26_30 := Lib.hid (E26_29.out.below hb30)
      clear B_29 X7_29 X12_29 X14_29 X17_29 S17_29 X18_29 E26_29
      clear hb30 d0 d1
      go_wp2_with fail
      refine (RcName_any n (by omega) w30).mono ?_
      rintro e w31 ⟨rfl, hb31⟩
      have B_31 := Lib.hid (B_30.out.trans (hb31.mono B_30.out.size))
      have X7_31 := Lib.hid (X7_30.out.below hb31 X7_30.out.lt)
      have X12_31 := Lib.hid (X12_30.out.below hb31 X12_30.out.lt)
      have X14_31 := Lib.hid (X14_30.out.below hb31 X14_30.out.lt)
      have X17_31 := Lib.hid (X17_30.out.below hb31 X17_30.out.lt)
      have S17_31 := Lib.hid (S17_30.out.below hb31 (Nat.le_of_lt X17_30.out.lt))
      have X18_31 := Lib.hid (X18_30.out.below hb31 X18_30.out.lt)
      have E26_31 := Lib.hid (E26_30.out.below hb31)
      clear B_30 X7_30 X12_30 X14_30 X17_30 S17_30 X18_30 E26_30
      clear hb31
      go_wp2
      go_ret
      exact ⟨by simp, B_31.out⟩
theorem RecipeTells_walk (a : Nat → Addr) (n s : ByteArray) (v : Value) (r : Rcp) (t : ByteArray) (lv : Value) (ls : List Bytes) (hn : n.size ≤ maxLen) (w : World) (hv : RcpV w w.heap.size v r) (ho : RcpO r) (hl : Rd w w.heap.size lv (ls.map VT)) (h : RbW a w) :
    Calls Tryz.prog 5 #[.string n, .string s, v, .string t, lv] w fun e w' => e = .returned (.bool true) ∧ Below w.heap.size w w' := by
  by_cases h1 : 30 < n.size
  · exact RcTl_n a n s v r t lv ls h1 hn w hv ho hl h
  · by_cases h2 : 1500 < s.size
    · by_cases h3 : s.size = 4001
      · by_cases h4 : longR r = 0
        · by_cases h5 : 1500 < t.size
          · exact RcTl_tb a n s v r t lv ls h1 h2 h3 h4 h5 hn w hv ho hl h
          · by_cases h6 : 60 < ls.length
            · exact RcTl_pb a n s v r t lv ls h1 h2 h3 h4 h5 h6 hn w hv ho hl h
            · by_cases hf : (rcpFault r).1 = 0
              · exact RcTl_B0 a n s v r t lv ls h1 h2 h3 h4 h5 h6 hf hn w hv ho hl h
              · exact RcTl_B1 a n s v r t lv ls h1 h2 h3 h4 h5 h6 hf hn w hv ho hl h
        · exact RcTl_lb a n s v r t lv ls h1 h2 h3 (longR_one h4) hn w hv ho hl h
      · exact RcTl_s a n s v r t lv ls h1 h2 h3 hn w hv ho hl h
    · by_cases h4 : longR r = 0
      · by_cases h5 : 1500 < t.size
        · exact RcTl_ta a n s v r t lv ls h1 h2 h4 h5 hn w hv ho hl h
        · by_cases h6 : 60 < ls.length
          · exact RcTl_pa a n s v r t lv ls h1 h2 h4 h5 h6 hn w hv ho hl h
          · by_cases hf : (rcpFault r).1 = 0
            · exact RcTl_A0 a n s v r t lv ls h1 h2 h4 h5 h6 hf hn w hv ho hl h
            · exact RcTl_A1 a n s v r t lv ls h1 h2 h4 h5 h6 hf hn w hv ho hl h
      · exact RcTl_la a n s v r t lv ls h1 h2 (longR_one h4) hn w hv ho hl h
end Go.Proofs.YtbokckjlgjnnjaaGreatDoor

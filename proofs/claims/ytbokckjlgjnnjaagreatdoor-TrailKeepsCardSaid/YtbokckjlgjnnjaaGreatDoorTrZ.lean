/- Walk of the law TrailTells. Condition: the sentinels lie as the text lays them (Sents). -/
import Derived.Test.YtbokckjlgjnnjaaGreatDoorTrX
namespace Go.Proofs.YtbokckjlgjnnjaaGreatDoor
open Go.RowKit Go.Lib

theorem EntO.toEB {e : Ent} (h : EntO e) : EntB e := ⟨h.r.n, h.r.c⟩
theorem add_bnd {l : EntL} {x : Ent} (hb : ∀ e ∈ l, RcpB e.r) (hx : RcpB x.r) : ∀ e ∈ (addRes l x).2, RcpB e.r := by
  unfold addRes
  split
  · exact fun e h => absurd h List.not_mem_nil
  · split
    · exact fun e h => absurd h List.not_mem_nil
    · split
      · exact fun e h => absurd h List.not_mem_nil
      · intro e h
        rcases List.mem_append.1 h with h | h
        · exact hb e h
        · rw [List.mem_singleton.1 h]; exact hx
theorem add_len {l : EntL} {x : Ent} (hl : l.length ≤ 41) : (addRes l x).2.length ≤ 1000000 := by
  unfold addRes
  split
  · simp
  · split
    · simp
    · split
      · simp
      · simp; omega
theorem keep_bnd {l : EntL} {many : Int} (hb : ∀ e ∈ l, RcpB e.r) : ∀ e ∈ (keepRes l many).2, RcpB e.r := by
  unfold keepRes
  split
  · exact fun e h => absurd h List.not_mem_nil
  · split
    · exact fun e h => absurd h List.not_mem_nil
    · exact fun e h => hb e ((keepL_sub many l).subset h)
theorem keep_len {l : EntL} {many : Int} (hl : l.length ≤ 1000000) : (keepRes l many).2.length ≤ 1000000 := by
  unfold keepRes
  split
  · simp
  · split
    · simp
    · exact Nat.le_trans (keepL_len many l) hl
theorem at_bnd {l : EntL} {nm : Bytes} {day : Int} (hb : ∀ e ∈ l, RcpB e.r) : (atRes l nm day).2.ids.length ≤ 1000000 := by
  unfold atRes
  split
  · simp [rcpZero]
  · unfold atEnd
    split
    · rename_i e he; exact (hb e (lastP_mem he).1).c
    · simp [rcpZero]
set_option maxRecDepth 100000 in
set_option maxHeartbeats 8000000 in
theorem TrTl_a (a : Nat → Addr) (v : Value) (l : EntL) (sl : Value) (e : Ent) (t : ByteArray) (day many : Int) (hl : l.length ≤ maxLen) (ho : ∀ x ∈ l, EntO x) (he : EntO e) (hts : t.size ≤ maxLen) (h1 : longT l = true) (w : World) (hv : RdT w w.heap.size v l) (hsl : RdI w w.heap.size sl e.r.ids) (h : Sents a w) :
    Calls Tryz.prog 4 #[v, entV (e, sl), .string t, .int .i64 day, .int .i64 many] w fun x w' => x = .returned (.bool true) ∧ Below w.heap.size w w' := by
  obtain ⟨A, c, hvA, hlc, S, hS, hx⟩ := hv.form
  subst hvA
  obtain ⟨As, cs, hsA⟩ := hsl.slice
  subst hsA
  have hb0 : Below w.heap.size w (w.alloc (.cells #[.int .i64 e.day, VT e.r.name, .int .i64 e.r.len, .int .u32 (e.r.print : Int), .slice As e.r.ids.length cs] 42)) := (Below.refl _ w).alloc (Nat.le_refl _) _
  have HX0 := Lib.hid (Box5.mk' w (.int .i64 e.day) (VT e.r.name) (.int .i64 e.r.len) (.int .u32 (e.r.print : Int)) (.slice As e.r.ids.length cs) 42)
  have HB0 := Lib.hid hb0
  have H := Lib.hid h
  have HV := Lib.hid (fun w' (h : Below w.heap.size w w') => (hv.keep h (Nat.le_refl _) : RdT w' w.heap.size _ l))
  have HSL := Lib.hid (fun w' (h : Below w.heap.size w w') => (hsl.keep h (Nat.le_refl _) : RdI w' w.heap.size _ e.r.ids))
  have TR := Lib.hid (Trailed_any a _ (h.below hb0))
  have HEB := Lib.hid (fun x hx => (ho x hx).toEB)
  have HRN := Lib.hid he.r.n
  have HRC := Lib.hid he.r.c
  have H1 := Lib.hid h1
  clear hv hsl h hb0 hS hx h1 ho he
  go_enter Tryz.func4, Tryz.ntmps4
  go_wp2_with fail
  generalize hw0 : w.alloc (.cells #[.int .i64 e.day, VT e.r.name, .int .i64 e.r.len, .int .u32 (e.r.print : Int), .slice As e.r.ids.length cs] 42) = w0 at *
  clear hw0
  refine TR.out.mono ?_
  rintro z w1 ⟨rfl, hb1⟩
  have HB1 := Lib.hid (HB0.out.trans (hb1.mono HB0.out.size))
  have HX1 := Lib.hid (HX0.out.below hb1 HX0.out.lt)
  clear hb1
  go_wp2_with fail
  refine (LongTrail_any _ l HEB.out hl w.heap.size w1 (HV.out _ HB1.out) HB1.out.size).mono ?_
  rintro z w2 ⟨rfl, hb2⟩
  have HB2 := Lib.hid (HB1.out.trans (hb2.mono HB1.out.size))
  have HX2 := Lib.hid (HX1.out.below hb2 HX1.out.lt)
  clear hb2
  obtain ⟨x0, x1, x2, x3, x4, _⟩ := HX2.out
  rw [H1.out]
  go_wp2
  go_ret
  exact ⟨rfl, HB2.out⟩
set_option maxRecDepth 100000 in
set_option maxHeartbeats 8000000 in
theorem TrTl_b (a : Nat → Addr) (v : Value) (l : EntL) (sl : Value) (e : Ent) (t : ByteArray) (day many : Int) (hl : l.length ≤ maxLen) (ho : ∀ x ∈ l, EntO x) (he : EntO e) (hts : t.size ≤ maxLen) (h1 : longT l = false) (h2 : 0 < longR e.r) (w : World) (hv : RdT w w.heap.size v l) (hsl : RdI w w.heap.size sl e.r.ids) (h : Sents a w) :
    Calls Tryz.prog 4 #[v, entV (e, sl), .string t, .int .i64 day, .int .i64 many] w fun x w' => x = .returned (.bool true) ∧ Below w.heap.size w w' := by
  obtain ⟨A, c, hvA, hlc, S, hS, hx⟩ := hv.form
  subst hvA
  obtain ⟨As, cs, hsA⟩ := hsl.slice
  subst hsA
  have hb0 : Below w.heap.size w (w.alloc (.cells #[.int .i64 e.day, VT e.r.name, .int .i64 e.r.len, .int .u32 (e.r.print : Int), .slice As e.r.ids.length cs] 42)) := (Below.refl _ w).alloc (Nat.le_refl _) _
  have HX0 := Lib.hid (Box5.mk' w (.int .i64 e.day) (VT e.r.name) (.int .i64 e.r.len) (.int .u32 (e.r.print : Int)) (.slice As e.r.ids.length cs) 42)
  have HB0 := Lib.hid hb0
  have H := Lib.hid h
  have HV := Lib.hid (fun w' (h : Below w.heap.size w w') => (hv.keep h (Nat.le_refl _) : RdT w' w.heap.size _ l))
  have HSL := Lib.hid (fun w' (h : Below w.heap.size w w') => (hsl.keep h (Nat.le_refl _) : RdI w' w.heap.size _ e.r.ids))
  have TR := Lib.hid (Trailed_any a _ (h.below hb0))
  have HEB := Lib.hid (fun x hx => (ho x hx).toEB)
  have HRN := Lib.hid he.r.n
  have HRC := Lib.hid he.r.c
  have H1 := Lib.hid h1
  clear hv hsl h hb0 hS hx h1 ho he
  go_enter Tryz.func4, Tryz.ntmps4
  go_wp2_with fail
  generalize hw0 : w.alloc (.cells #[.int .i64 e.day, VT e.r.name, .int .i64 e.r.len, .int .u32 (e.r.print : Int), .slice As e.r.ids.length cs] 42) = w0 at *
  clear hw0
  refine TR.out.mono ?_
  rintro z w1 ⟨rfl, hb1⟩
  have HB1 := Lib.hid (HB0.out.trans (hb1.mono HB0.out.size))
  have HX1 := Lib.hid (HX0.out.below hb1 HX0.out.lt)
  clear hb1
  go_wp2_with fail
  refine (LongTrail_any _ l HEB.out hl w.heap.size w1 (HV.out _ HB1.out) HB1.out.size).mono ?_
  rintro z w2 ⟨rfl, hb2⟩
  have HB2 := Lib.hid (HB1.out.trans (hb2.mono HB1.out.size))
  have HX2 := Lib.hid (HX1.out.below hb2 HX1.out.lt)
  clear hb2
  obtain ⟨x0, x1, x2, x3, x4, _⟩ := HX2.out
  rw [H1.out]
  go_wp2_with fail
  refine (LongRecipe_any (rcpAgg e.r (.slice As e.r.ids.length cs)) e.r HRN.out HRC.out w.heap.size w2 ⟨_, rfl, HSL.out _ HB2.out⟩).mono ?_
  rintro z w3 ⟨rfl, hb3⟩
  have HB3 := Lib.hid (HB2.out.trans (hb3.mono HB2.out.size))
  have HX3 := Lib.hid (HX2.out.below hb3 HX2.out.lt)
  clear hb3 x0 x1 x2 x3 x4
  go_wp2
  go_ret
  exact ⟨rfl, HB3.out⟩
set_option maxRecDepth 100000 in
set_option maxHeartbeats 8000000 in
theorem TrTl_c (a : Nat → Addr) (v : Value) (l : EntL) (sl : Value) (e : Ent) (t : ByteArray) (day many : Int) (hl : l.length ≤ maxLen) (ho : ∀ x ∈ l, EntO x) (he : EntO e) (hts : t.size ≤ maxLen) (h1 : longT l = false) (h2 : ¬ 0 < longR e.r) (h3 : 30 < t.size) (w : World) (hv : RdT w w.heap.size v l) (hsl : RdI w w.heap.size sl e.r.ids) (h : Sents a w) :
    Calls Tryz.prog 4 #[v, entV (e, sl), .string t, .int .i64 day, .int .i64 many] w fun x w' => x = .returned (.bool true) ∧ Below w.heap.size w w' := by
  obtain ⟨A, c, hvA, hlc, S, hS, hx⟩ := hv.form
  subst hvA
  obtain ⟨As, cs, hsA⟩ := hsl.slice
  subst hsA
  have hb0 : Below w.heap.size w (w.alloc (.cells #[.int .i64 e.day, VT e.r.name, .int .i64 e.r.len, .int .u32 (e.r.print : Int), .slice As e.r.ids.length cs] 42)) := (Below.refl _ w).alloc (Nat.le_refl _) _
  have HX0 := Lib.hid (Box5.mk' w (.int .i64 e.day) (VT e.r.name) (.int .i64 e.r.len) (.int .u32 (e.r.print : Int)) (.slice As e.r.ids.length cs) 42)
  have HB0 := Lib.hid hb0
  have H := Lib.hid h
  have HV := Lib.hid (fun w' (h : Below w.heap.size w w') => (hv.keep h (Nat.le_refl _) : RdT w' w.heap.size _ l))
  have HSL := Lib.hid (fun w' (h : Below w.heap.size w w') => (hsl.keep h (Nat.le_refl _) : RdI w' w.heap.size _ e.r.ids))
  have TR := Lib.hid (Trailed_any a _ (h.below hb0))
  have HEB := Lib.hid (fun x hx => (ho x hx).toEB)
  have HRN := Lib.hid he.r.n
  have HRC := Lib.hid he.r.c
  have H1 := Lib.hid h1
  have h3i : (30 : Int) < (t.size : Int) := by omega
  clear hv hsl h hb0 hS hx h1 ho he h3
  go_enter Tryz.func4, Tryz.ntmps4
  go_wp2_with fail
  generalize hw0 : w.alloc (.cells #[.int .i64 e.day, VT e.r.name, .int .i64 e.r.len, .int .u32 (e.r.print : Int), .slice As e.r.ids.length cs] 42) = w0 at *
  clear hw0
  refine TR.out.mono ?_
  rintro z w1 ⟨rfl, hb1⟩
  have HB1 := Lib.hid (HB0.out.trans (hb1.mono HB0.out.size))
  have HX1 := Lib.hid (HX0.out.below hb1 HX0.out.lt)
  clear hb1
  go_wp2_with fail
  refine (LongTrail_any _ l HEB.out hl w.heap.size w1 (HV.out _ HB1.out) HB1.out.size).mono ?_
  rintro z w2 ⟨rfl, hb2⟩
  have HB2 := Lib.hid (HB1.out.trans (hb2.mono HB1.out.size))
  have HX2 := Lib.hid (HX1.out.below hb2 HX1.out.lt)
  clear hb2
  obtain ⟨x0, x1, x2, x3, x4, _⟩ := HX2.out
  rw [H1.out]
  go_wp2_with fail
  refine (LongRecipe_any (rcpAgg e.r (.slice As e.r.ids.length cs)) e.r HRN.out HRC.out w.heap.size w2 ⟨_, rfl, HSL.out _ HB2.out⟩).mono ?_
  rintro z w3 ⟨rfl, hb3⟩
  have HB3 := Lib.hid (HB2.out.trans (hb3.mono HB2.out.size))
  have HX3 := Lib.hid (HX2.out.below hb3 HX2.out.lt)
  clear hb3 x0 x1 x2 x3 x4
  go_wp2
  go_ret
  exact ⟨rfl, HB3.out⟩
set_option maxRecDepth 100000 in
set_option maxHeartbeats 8000000 in
theorem TrTl_m (a : Nat → Addr) (v : Value) (l : EntL) (sl : Value) (e : Ent) (t : ByteArray) (day many : Int) (hl : l.length ≤ maxLen) (ho : ∀ x ∈ l, EntO x) (he : EntO e) (hts : t.size ≤ maxLen) (h1 : longT l = false) (h2 : ¬ 0 < longR e.r) (h3 : ¬ 30 < t.size) (w : World) (hv : RdT w w.heap.size v l) (hsl : RdI w w.heap.size sl e.r.ids) (h : Sents a w) :
    Calls Tryz.prog 4 #[v, entV (e, sl), .string t, .int .i64 day, .int .i64 many] w fun x w' => x = .returned (.bool true) ∧ Below w.heap.size w w' := by
  obtain ⟨A, c, hvA, hlc, S, hS, hx⟩ := hv.form
  subst hvA
  obtain ⟨As, cs, hsA⟩ := hsl.slice
  subst hsA
  have hb0 : Below w.heap.size w (w.alloc (.cells #[.int .i64 e.day, VT e.r.name, .int .i64 e.r.len, .int .u32 (e.r.print : Int), .slice As e.r.ids.length cs] 42)) := (Below.refl _ w).alloc (Nat.le_refl _) _
  have HX0 := Lib.hid (Box5.mk' w (.int .i64 e.day) (VT e.r.name) (.int .i64 e.r.len) (.int .u32 (e.r.print : Int)) (.slice As e.r.ids.length cs) 42)
  have HB0 := Lib.hid hb0
  have H := Lib.hid h
  have HV := Lib.hid (fun w' (h : Below w.heap.size w w') => (hv.keep h (Nat.le_refl _) : RdT w' w.heap.size _ l))
  have HSL := Lib.hid (fun w' (h : Below w.heap.size w w') => (hsl.keep h (Nat.le_refl _) : RdI w' w.heap.size _ e.r.ids))
  have TR := Lib.hid (Trailed_any a _ (h.below hb0))
  have HEB := Lib.hid (fun x hx => (ho x hx).toEB)
  have HRN := Lib.hid he.r.n
  have HRC := Lib.hid he.r.c
  have H1 := Lib.hid h1
  have HXL := Lib.hid hx
  have h3i : ¬ (30 : Int) < (t.size : Int) := by omega
  have hsh := longT_short h1
  have hl41 := hsh.1
  have hl6 : l.length ≤ 1000000 := by omega
  have HRB := Lib.hid (fun x hx => (ho x hx).r.toB (hsh.2 x hx))
  have HRE := Lib.hid (he.r.toB h2)
  clear hv hsl h hb0 hS hx h1 ho he h3 hsh
  go_enter Tryz.func4, Tryz.ntmps4
  go_wp2_with fail
  generalize hw0 : w.alloc (.cells #[.int .i64 e.day, VT e.r.name, .int .i64 e.r.len, .int .u32 (e.r.print : Int), .slice As e.r.ids.length cs] 42) = w0 at *
  clear hw0
  refine TR.out.mono ?_
  rintro z w1 ⟨rfl, hb1⟩
  have HB1 := Lib.hid (HB0.out.trans (hb1.mono HB0.out.size))
  have HX1 := Lib.hid (HX0.out.below hb1 HX0.out.lt)
  clear hb1
  go_wp2_with fail
  refine (LongTrail_any _ l HEB.out hl w.heap.size w1 (HV.out _ HB1.out) HB1.out.size).mono ?_
  rintro z w2 ⟨rfl, hb2⟩
  have HB2 := Lib.hid (HB1.out.trans (hb2.mono HB1.out.size))
  have HX2 := Lib.hid (HX1.out.below hb2 HX1.out.lt)
  clear hb2
  obtain ⟨x0, x1, x2, x3, x4, _⟩ := HX2.out
  rw [H1.out]
  go_wp2_with fail
  refine (LongRecipe_any (rcpAgg e.r (.slice As e.r.ids.length cs)) e.r HRN.out HRC.out w.heap.size w2 ⟨_, rfl, HSL.out _ HB2.out⟩).mono ?_
  rintro z w3 ⟨rfl, hb3⟩
  have HB3 := Lib.hid (HB2.out.trans (hb3.mono HB2.out.size))
  have HX3 := Lib.hid (HX2.out.below hb3 HX2.out.lt)
  clear hb3 x0 x1 x2 x3 x4
  go_wp2_with fail
  refine (AsTrail_any _ l HRB.out hl6 w3 (RdT.more (HV.out _ HB3.out) HB3.out.size)).mono ?_
  rintro z w4 ⟨v4, rfl, hr4, hb4⟩
  obtain ⟨A4, c4, hv4, _⟩ := hr4.form
  subst hv4
  have HB4 := Lib.hid (HB3.out.trans (hb4.mono HB3.out.size))
  have HX4 := Lib.hid (HX3.out.below hb4 HX3.out.lt)
  have HW := Lib.hid (fun w' (h : Below w4.heap.size w4 w') => (RdT.below hr4 h : RdT w' w'.heap.size _ l))
  have hlt4 : w.heap.size < w4.heap.size := HX4.out.lt
  have HXX := Lib.hid (fun w' (h : Below w4.heap.size w4 w') => HX4.out.below h HX4.out.lt)
  have HBW := Lib.hid (fun w' (h : Below w4.heap.size w4 w') => HB4.out.trans (h.mono HB4.out.size))
  have C4 := Lib.hid (Below.refl w4.heap.size w4)
  clear hr4 hb4
  go_wp2_with fail
  refine (TCheck_any a _ l HRB.out hl6 w4 (HW.out _ C4.out) ((H.out.below (HBW.out _ C4.out)).someS _ (by decide))).mono ?_
  rintro z w5 ⟨r5, rfl, hev5, hb5⟩
  have C5 := Lib.hid (C4.out.trans (hb5.mono C4.out.size))
  have HE5 := Lib.hid hev5
  clear hev5 hb5
  go_wp2_with fail
  refine (RTFault_any _ l HRB.out hl6 w5 (RdT.more (HV.out _ (HBW.out _ C5.out)) (HBW.out _ C5.out).size)).mono ?_
  rintro z w6 ⟨rfl, hb6⟩
  have C6 := Lib.hid (C5.out.trans (hb6.mono C5.out.size))
  have HE6 := Lib.hid (HE5.out.below hb6)
  clear hb6
  go_wp2_with fail
  refine (faulted_same a r5 (trailFault l) w6 (H.out.below (HBW.out _ C6.out)) HE6.out).mono ?_
  rintro z w7 ⟨rfl, hb7⟩
  have C7 := Lib.hid (C6.out.trans (hb7.mono C6.out.size))
  have HX7 := Lib.hid (HXX.out _ C7.out)
  clear hb7
  go_wp2
  have hS0 : Below w7.heap.size w7 w7.drew := (Below.refl _ _).drew
  refine region_S (fun w' => Below w7.heap.size w7 w') 12 (by kernel_rfl) (by kernel_rfl) ?_
  refine take_S 0 rfl (by kernel_rfl) (by kernel_rfl) hS0 (fun w' hS => by obtain ⟨y0, y1, y2, y3, y4, _⟩ := HX7.out.below hS HX7.out.lt; go_simp; rfl) ?_
  refine take_S 1 rfl (by kernel_rfl) (by kernel_rfl) hS0 (fun w' hS => by obtain ⟨y0, y1, y2, y3, y4, _⟩ := HX7.out.below hS HX7.out.lt; go_simp; rfl) ?_
  refine take_S 2 rfl (by kernel_rfl) (by kernel_rfl) hS0 (fun w' hS => by obtain ⟨y0, y1, y2, y3, y4, _⟩ := HX7.out.below hS HX7.out.lt; go_simp; rfl) ?_
  refine take_S 3 rfl (by kernel_rfl) (by kernel_rfl) hS0 (fun w' hS => by obtain ⟨y0, y1, y2, y3, y4, _⟩ := HX7.out.below hS HX7.out.lt; go_simp; rfl) ?_
  refine take_S 4 rfl (by kernel_rfl) (by kernel_rfl) hS0 (fun w' hS => by obtain ⟨y0, y1, y2, y3, y4, _⟩ := HX7.out.below hS HX7.out.lt; go_simp; rfl) ?_
  refine carry_S 5 rfl (by kernel_rfl) (by decide) (by kernel_rfl) (fun K hK => ?_)
  go_simp
  have D7 := Lib.hid (C7.out.trans (hS0.mono C7.out.size))
  refine (OwnRecipe_any (rcpAgg e.r (.slice As e.r.ids.length cs)) e.r HRE.out.c w7.drew ⟨_, rfl, (HSL.out _ (HBW.out _ D7.out)).more (HBW.out _ D7.out).size⟩).mono ?_
  rintro z w8 ⟨v8, rfl, ⟨sl8, rfl, hr8⟩, hb8⟩
  obtain ⟨A8, c8, hsl8⟩ := hr8.rd.slice
  subst hsl8
  have hS8 : Below w7.heap.size w7 w8 := hS0.trans (hb8.mono hS0.size)
  have HR8 := Lib.hid hr8.rd
  refine hK _ _ hS8 ?_
  clear hK K hb8 hr8
  try simp only [Act.put, List.getElem_toArray, List.getElem_cons_succ, List.getElem_cons_zero, List.setIfInBounds_toArray, List.set_cons_zero, List.set_cons_succ]
  refine take_S 6 rfl (by kernel_rfl) (by kernel_rfl) hS8 (fun w' hS => by go_simp; rfl) ?_
  try simp only [Act.put, List.getElem_toArray, List.getElem_cons_succ, List.getElem_cons_zero, List.setIfInBounds_toArray, List.set_cons_zero, List.set_cons_succ]
  refine carry_S 7 rfl (by kernel_rfl) (by decide) (by kernel_rfl) (fun K hK => ?_)
  go_simp
  have C8 := Lib.hid (C7.out.trans (hS8.mono C7.out.size))
  refine (TAdd_any a _ l e (.slice A8 e.r.ids.length c8) HRB.out HRE.out hl6 w8 (HW.out _ C8.out) HR8.out ((H.out.below (HBW.out _ C8.out)).someS _ (by decide))).mono ?_
  rintro z w9 ⟨v9, r9, rfl, hev9, hrd9, hb9⟩
  have hS9 : Below w7.heap.size w7 w9 := hS8.trans (hb9.mono hS8.size)
  have C9 := Lib.hid (C8.out.trans (hb9.mono C8.out.size))
  have HE9 := Lib.hid hev9
  have HT9 := Lib.hid hrd9
  obtain ⟨A9, c9, hv9, _⟩ := hrd9.form
  subst hv9
  refine hK _ _ hS9 ?_
  clear hK K hev9 hrd9 hb9 hS0 hS8
  try simp only [Act.put, List.getElem_toArray, List.getElem_cons_succ, List.getElem_cons_zero, List.setIfInBounds_toArray, List.set_cons_zero, List.set_cons_succ]
  refine take_S 8 rfl (by kernel_rfl) (by kernel_rfl) hS9 (fun w' hS => by go_simp; rfl) ?_
  refine take_S 9 rfl (by kernel_rfl) (by kernel_rfl) hS9 (fun w' hS => by go_simp; rfl) ?_
  refine take_S 10 rfl (by kernel_rfl) (by kernel_rfl) hS9 (fun w' hS => by go_simp; rfl) ?_
  refine take_S 11 rfl (by kernel_rfl) (by kernel_rfl) hS9 (fun w' hS => by go_simp; rfl) ?_
  refine forced_S (by kernel_rfl) ?_
  clear hS9
  simp only [List.drop_succ_cons, List.drop_zero]
  have HX9 := Lib.hid (HXX.out _ C9.out)
  obtain ⟨x0, x1, x2, x3, x4, _⟩ := HX9.out
  go_wp2_with fail
  refine (RAddE_any _ l e (.slice As e.r.ids.length cs) HRB.out HRE.out hl6 w9 (RdT.more (HV.out _ (HBW.out _ C9.out)) (HBW.out _ C9.out).size) ((HSL.out _ (HBW.out _ C9.out)).more (HBW.out _ C9.out).size)).mono ?_
  rintro z w10 ⟨v10, rfl, hrd10, hb10⟩
  obtain ⟨A10, c10, hv10, _⟩ := hrd10.form
  subst hv10
  clear x0 x1 x2 x3 x4
  have ha11 : Below w10.heap.size w10 (w10.alloc (.cells #[.int .i64 (addRes l e).1.1, .int .i64 (addRes l e).1.2] 49)) := (Below.refl _ _).alloc (Nat.le_refl _) _
  have hb11 : Below w9.heap.size w9 (w10.alloc (.cells #[.int .i64 (addRes l e).1.1, .int .i64 (addRes l e).1.2] 49)) := hb10.trans (ha11.mono hb10.size)
  have C11 := Lib.hid (C9.out.trans (hb11.mono C9.out.size))
  have F11 := Lib.hid (FB.new w10 (addRes l e).1)
  have hfb : w4.heap.size ≤ w10.heap.size := Nat.le_trans C9.out.size hb10.size
  have HE11 := Lib.hid (HE9.out.below hb11)
  have HT11 := Lib.hid (HT9.out.below hb11)
  have HU11 := Lib.hid (RdT.below hrd10 ha11)
  clear hrd10 hb10 ha11 hb11
  unfold fltV
  obtain ⟨f0, f1, f2, f3⟩ := F11.out.box
  go_wp2_with fail
  generalize hw11 : w10.alloc (.cells #[.int .i64 (addRes l e).1.1, .int .i64 (addRes l e).1.2] 49) = w11 at *
  clear hw11
  generalize w10.heap.size = fb at *
  refine (faulted_same a r9 (addRes l e).1 w11 (H.out.below (HBW.out _ C11.out)) HE11.out).mono ?_
  rintro z w12 ⟨rfl, hb12⟩
  have C12 := Lib.hid (C11.out.trans (hb12.mono C11.out.size))
  have F12 := Lib.hid (F11.out.below hb12)
  clear f0 f1 f2 f3
  have hab : ∀ x ∈ (addRes l e).2, RcpB x.r := add_bnd HRB.out HRE.out
  have hal : (addRes l e).2.length ≤ 1000000 := add_len hl41
  go_wp2_with fail
  refine (SameTrail_same _ _ (addRes l e).2 hab hal w12 (HT11.out.below hb12) (HU11.out.below hb12)).mono ?_
  rintro z w13 ⟨rfl, hb13⟩
  have C13 := Lib.hid (C12.out.trans (hb13.mono C12.out.size))
  have F13 := Lib.hid (F12.out.below hb13)
  clear hb12 hb13 hab hal
  go_wp2_with fail
  refine (TAt_any a _ l t day HRB.out hl6 w13 (HW.out _ C13.out) ((H.out.below (HBW.out _ C13.out)).someS _ (by decide))).mono ?_
  rintro z w14 ⟨v14, r14, rfl, hev14, ⟨s14, rfl, hi14⟩, hb14⟩
  have hrc := at_bnd (nm := t.data.toList) (day := day) HRB.out
  have HRC2 := Lib.hid hrc
  clear hrc
  generalize hAR : atRes l t.data.toList day = AR at *
  obtain ⟨A14, c14, hs14⟩ := hi14.slice
  subst hs14
  have ha15 : Below w14.heap.size w14 (w14.alloc (.cells #[VT AR.2.name, .int .i64 AR.2.len, .int .u32 (AR.2.print : Int), .slice A14 AR.2.ids.length c14] 36)) := (Below.refl _ _).alloc (Nat.le_refl _) _
  have hb15 : Below w13.heap.size w13 (w14.alloc (.cells #[VT AR.2.name, .int .i64 AR.2.len, .int .u32 (AR.2.print : Int), .slice A14 AR.2.ids.length c14] 36)) := hb14.trans (ha15.mono hb14.size)
  have C15 := Lib.hid (C13.out.trans (hb15.mono C13.out.size))
  have F15 := Lib.hid (F13.out.below hb15)
  have HE15 := Lib.hid (hev14.below ha15)
  have HQ15 := Lib.hid ((hi14.keep ha15 (Nat.le_refl _)).more ha15.size)
  have XB15 := Lib.hid (Box4.mk' w14 (VT AR.2.name) (.int .i64 AR.2.len) (.int .u32 (AR.2.print : Int)) (.slice A14 AR.2.ids.length c14) 36)
  have hfx : fb < w14.heap.size := Nat.lt_of_lt_of_le F13.out.lt hb14.size
  clear hev14 hi14 hb14 ha15 hb15
  go_wp2_with fail
  generalize hw15 : w14.alloc (.cells #[VT AR.2.name, .int .i64 AR.2.len, .int .u32 (AR.2.print : Int), .slice A14 AR.2.ids.length c14] 36) = w15 at *
  clear hw15
  generalize w14.heap.size = xb at *
  refine (RTAt_any _ l t day HRB.out hl6 w15 (RdT.more (HV.out _ (HBW.out _ C15.out)) (HBW.out _ C15.out).size)).mono ?_
  rintro z w16 ⟨v16, rfl, hrv16, hb16⟩
  rw [hAR] at hrv16 ⊢
  obtain ⟨s16, rfl, hi16⟩ := hrv16
  obtain ⟨A16, c16, hs16⟩ := hi16.slice
  subst hs16
  have hfx2 : xb ≠ fb := by omega
  have F16 := Lib.hid (F15.out.below hb16)
  have hz16 : ((w16.setCell ⟨fb, 0, none⟩ (.int .i64 AR.1.1)).setCell ⟨fb, 1, none⟩ (.int .i64 AR.1.2)).heap.size = w16.heap.size := by simp [World.setCell]
  have C17 := Lib.hid ((below_setFB (C15.out.trans (hb16.mono C15.out.size)) hfb AR.1.1 AR.1.2).alloc (by rw [hz16]; exact (C15.out.trans (hb16.mono C15.out.size)).size) (.cells #[VT AR.2.name, .int .i64 AR.2.len, .int .u32 (AR.2.print : Int), .slice A16 AR.2.ids.length c16] 36))
  have ha17 : Below ((w16.setCell ⟨fb, 0, none⟩ (.int .i64 AR.1.1)).setCell ⟨fb, 1, none⟩ (.int .i64 AR.1.2)).heap.size ((w16.setCell ⟨fb, 0, none⟩ (.int .i64 AR.1.1)).setCell ⟨fb, 1, none⟩ (.int .i64 AR.1.2)) (((w16.setCell ⟨fb, 0, none⟩ (.int .i64 AR.1.1)).setCell ⟨fb, 1, none⟩ (.int .i64 AR.1.2)).alloc (.cells #[VT AR.2.name, .int .i64 AR.2.len, .int .u32 (AR.2.print : Int), .slice A16 AR.2.ids.length c16] 36)) := (Below.refl _ _).alloc (Nat.le_refl _) _
  have F17 := Lib.hid ((F16.out.set AR.1.1 AR.1.2).below ha17)
  have HE17 := Lib.hid ((ev_setFB (HE15.out.below hb16) F16.out AR.1.1 AR.1.2).below ha17)
  have HQ17 := Lib.hid (((rdI_setFB ((HQ15.out.keep hb16 (Nat.le_refl _)).more hb16.size) F16.out AR.1.1 AR.1.2).keep ha17 (by rw [hz16]; exact Nat.le_refl _)).more (Nat.le_trans (Nat.le_of_eq hz16.symm) ha17.size))
  have HP17 := Lib.hid (((rdI_setFB hi16 F16.out AR.1.1 AR.1.2).keep ha17 (by rw [hz16]; exact Nat.le_refl _)).more (Nat.le_trans (Nat.le_of_eq hz16.symm) ha17.size))
  have XB17 := Lib.hid ((((XB15.out.below hb16 XB15.out.lt).setFar (j := 0) hfx2 (.int .i64 AR.1.1)).setFar (j := 1) hfx2 (.int .i64 AR.1.2)).below ha17 (by rw [hz16]; exact Nat.lt_of_lt_of_le XB15.out.lt hb16.size))
  have YB17 : Hid (Box4 w16.heap.size (VT AR.2.name) (.int .i64 AR.2.len) (.int .u32 (AR.2.print : Int)) (.slice A16 AR.2.ids.length c16) (((w16.setCell ⟨fb, 0, none⟩ (.int .i64 AR.1.1)).setCell ⟨fb, 1, none⟩ (.int .i64 AR.1.2)).alloc (.cells #[VT AR.2.name, .int .i64 AR.2.len, .int .u32 (AR.2.print : Int), .slice A16 AR.2.ids.length c16] 36))) := Lib.hid (by
    have := Box4.mk' ((w16.setCell ⟨fb, 0, none⟩ (.int .i64 AR.1.1)).setCell ⟨fb, 1, none⟩ (.int .i64 AR.1.2)) (VT AR.2.name) (.int .i64 AR.2.len) (.int .u32 (AR.2.print : Int)) (.slice A16 AR.2.ids.length c16) 36
    rw [hz16] at this
    exact this)
  clear hi16 hb16 ha17 hz16
  unfold fltV
  obtain ⟨f0, f1, f2, f3⟩ := F16.out.box
  have hfy : fb < w16.heap.size := F16.out.lt
  have fa0 : ∀ o, (w16.alloc o).cell? ⟨fb, 0, none⟩ = some (.int .i64 (addRes l e).1.1) := fun o => (F16.out.below ((Below.refl _ _).alloc (Nat.le_refl _) o)).box.1
  have fa1 : ∀ o, (w16.alloc o).cell? ⟨fb, 1, none⟩ = some (.int .i64 (addRes l e).1.2) := fun o => (F16.out.below ((Below.refl _ _).alloc (Nat.le_refl _) o)).box.2.1
  have fa2 : ∀ o, (w16.alloc o).frozen? ⟨fb, 0, none⟩ = false := fun o => (F16.out.below ((Below.refl _ _).alloc (Nat.le_refl _) o)).box.2.2.1
  have fa3 : ∀ o, (w16.alloc o).frozen? ⟨fb, 1, none⟩ = false := fun o => (F16.out.below ((Below.refl _ _).alloc (Nat.le_refl _) o)).box.2.2.2
  obtain ⟨x0, x1, x2, x3, _⟩ := XB17.out
  obtain ⟨y0, y1, y2, y3, _⟩ := YB17.out
  go_wp2_with fail
  generalize hw17 : ((w16.setCell ⟨fb, 0, none⟩ (.int .i64 AR.1.1)).setCell ⟨fb, 1, none⟩ (.int .i64 AR.1.2)).alloc (.cells #[VT AR.2.name, .int .i64 AR.2.len, .int .u32 (AR.2.print : Int), .slice A16 AR.2.ids.length c16] 36) = w17 at *
  clear hw17 fa0 fa1 fa2 fa3 x0 x1 x2 x3 y0 y1 y2 y3 f0 f1 f2 f3
  refine (SameRecipe_same (rcpAgg AR.2 (.slice A14 AR.2.ids.length c14)) (rcpAgg AR.2 (.slice A16 AR.2.ids.length c16)) AR.2 HRC2.out w17 ⟨_, rfl, HQ17.out⟩ ⟨_, rfl, HP17.out⟩).mono ?_
  rintro z w19 ⟨rfl, hb19⟩
  have C19 := Lib.hid (C17.out.trans (hb19.mono C17.out.size))
  have F19 := Lib.hid (F17.out.below hb19)
  have HE19 := Lib.hid (HE17.out.below hb19)
  clear hb19
  obtain ⟨f0, f1, f2, f3⟩ := F19.out.box
  go_wp2_with fail
  refine (faulted_same a r14 AR.1 w19 (H.out.below (HBW.out _ C19.out)) HE19.out).mono ?_
  rintro z w20 ⟨rfl, hb20⟩
  have C20 := Lib.hid (C19.out.trans (hb20.mono C19.out.size))
  have F20 := Lib.hid (F19.out.below hb20)
  clear hb20 f0 f1 f2 f3
  go_wp2_with fail
  refine (TKeep_any a _ l many HRB.out hl6 w20 (HW.out _ C20.out) ((H.out.below (HBW.out _ C20.out)).someS _ (by decide))).mono ?_
  rintro z w21 ⟨v21, r21, rfl, hev21, hrd21, hb21⟩
  obtain ⟨A21, c21, hv21, _⟩ := hrd21.form
  subst hv21
  have C21 := Lib.hid (C20.out.trans (hb21.mono C20.out.size))
  have F21 := Lib.hid (F20.out.below hb21)
  have HE21 := Lib.hid hev21
  have HT21 := Lib.hid hrd21
  clear hev21 hrd21 hb21
  go_wp2_with fail
  refine (RKeepOf_any _ l many HRB.out hl6 w21 (RdT.more (HV.out _ (HBW.out _ C21.out)) (HBW.out _ C21.out).size)).mono ?_
  rintro z w22 ⟨v22, rfl, hrd22, hb22⟩
  obtain ⟨A22, c22, hv22, _⟩ := hrd22.form
  subst hv22
  have hkb := keep_bnd (many := many) HRB.out
  have hkl := keep_len (many := many) hl6
  have HKB := Lib.hid hkb
  clear hkb
  generalize hKR : keepRes l many = KR at *
  clear hKR
  have F22 := Lib.hid (F21.out.below hb22)
  have C23 := Lib.hid (below_setFB (C21.out.trans (hb22.mono C21.out.size)) hfb KR.1.1 KR.1.2)
  have F23 := Lib.hid (F22.out.set KR.1.1 KR.1.2)
  have HE23 := Lib.hid (ev_setFB (HE21.out.below hb22) F22.out KR.1.1 KR.1.2)
  have HT23 := Lib.hid (RdT.more (rdT_setFB (HT21.out.below hb22) F22.out KR.1.1 KR.1.2) (B' := ((w22.setCell ⟨fb, 0, none⟩ (.int .i64 KR.1.1)).setCell ⟨fb, 1, none⟩ (.int .i64 KR.1.2)).heap.size) (by simp [World.setCell]))
  have HU23 := Lib.hid (RdT.more (rdT_setFB hrd22 F22.out KR.1.1 KR.1.2) (B' := ((w22.setCell ⟨fb, 0, none⟩ (.int .i64 KR.1.1)).setCell ⟨fb, 1, none⟩ (.int .i64 KR.1.2)).heap.size) (by simp [World.setCell]))
  clear hrd22 hb22
  unfold fltV
  obtain ⟨f0, f1, f2, f3⟩ := F22.out.box
  obtain ⟨g0, g1, g2, g3⟩ := F23.out.box
  go_wp2_with fail
  generalize hw23 : ((w22.setCell ⟨fb, 0, none⟩ (.int .i64 KR.1.1)).setCell ⟨fb, 1, none⟩ (.int .i64 KR.1.2)) = w23 at *
  clear hw23 f0 f1 f2 f3 g0 g1 g2 g3
  refine (faulted_same a r21 KR.1 w23 (H.out.below (HBW.out _ C23.out)) HE23.out).mono ?_
  rintro z w24 ⟨rfl, hb24⟩
  have C24 := Lib.hid (C23.out.trans (hb24.mono C23.out.size))
  have HT24 := Lib.hid (HT23.out.below hb24)
  have HU24 := Lib.hid (HU23.out.below hb24)
  clear hb24
  go_wp2_with fail
  refine (SameTrail_same _ _ KR.2 HKB.out hkl w24 HT24.out HU24.out).mono ?_
  rintro z w25 ⟨rfl, hb25⟩
  have C25 := Lib.hid (C24.out.trans (hb25.mono C24.out.size))
  clear hb25 hkl
  go_wp2_with fail
  refine (TNames_any _ l HRB.out hl6 w25 (HW.out _ C25.out)).mono ?_
  rintro z w26 ⟨v26, rfl, hrd26, hb26⟩
  have C26 := Lib.hid (C25.out.trans (hb26.mono C25.out.size))
  have HN26 := Lib.hid hrd26
  obtain ⟨A26, c26, hv26, _, hxn⟩ := hrd26
  rw [List.length_map] at hv26
  subst hv26
  have HXN := Lib.hid hxn
  have HNS := Lib.hid (namesL_srt l)
  have hnl : (namesL l).length ≤ l.length := namesL_len l
  have HMEM := Lib.hid (fun x (hx : x ∈ l) => (mem_namesL (l := l) (x := x.r.name)).2 ⟨x, hx, rfl⟩)
  generalize namesL l = NL at *
  clear hb26 hxn
  go_wp2
  go_loopg [21] NL.length (fun gh vi wr => ∃ k : Nat, vi = .int .i64 k ∧ k ≤ NL.length ∧ gh = NL.length - k ∧ Below w26.heap.size w26 wr)
  case atStart => exact ⟨0, rfl, Nat.zero_le _, rfl, Below.refl _ _⟩
  case round =>
    obtain ⟨k, rfl, hk, hgm, hB⟩ := hrel
    by_cases hkl2 : k < NL.length
    · have hne2 : NL.map VT ≠ [] := by intro h; rw [List.map_eq_nil_iff] at h; subst h; simp at hkl2
      obtain ⟨gn, on, rfl, hgn, hcn⟩ := HXN.out hne2
      have b1 : (0 : Int) ≤ (k : Int) := by omega
      have b2 : (k : Int) < (NL.length : Int) := by omega
      have d0 : wr.cell? ⟨gn, on + k, none⟩ = some (VT NL[k]) := (hB.cell (p := ⟨gn, on + k, none⟩) hgn).trans (hcn k (VT NL[k]) (by rw [List.getElem?_map, List.getElem?_eq_getElem hkl2]; rfl))
      have HBn := Lib.hid hB
      by_cases hk0 : k = 0
      · subst hk0
        simp only [Nat.add_zero] at d0
        clear hcn hne2 hB
        go_wp2
        go_quiet (fail)
        go_wp2
        go_roundg (NL.length - (0 + 1))
        case measure => omega
        case rel => exact ⟨1, by go_num, hkl2, rfl, below_drewN HBn.out _⟩
      · have hp : 0 < k := by omega
        have hk1 : k - 1 < NL.length := by omega
        have b3 : (0 : Int) ≤ (k : Int) - 1 := by omega
        have b4 : (k : Int) - 1 < (NL.length : Int) := by omega
        have d1 : wr.cell? ⟨gn, on + (k - 1), none⟩ = some (VT NL[k - 1]) := (hB.cell (p := ⟨gn, on + (k - 1), none⟩) hgn).trans (hcn (k - 1) (VT NL[k - 1]) (by rw [List.getElem?_map, List.getElem?_eq_getElem hk1]; rfl))
        have hlt := List.pairwise_iff_getElem.1 HNS.out (k - 1) k hk1 hkl2 (by omega)
        have hlb : Op.bytesLess (bs NL[k]).toList (bs NL[k - 1]).toList = false := by
          rw [bs_listW2, bs_listW2, ← before_less]
          cases hz : bytesBefore NL[k] NL[k - 1] with
          | false => rfl
          | true => exact absurd rfl (before_ne (WideShapes.bytes_trans _ _ _ hlt hz))
        have hlq : ((bs NL[k]).toList == (bs NL[k - 1]).toList) = false := by
          rw [bs_listW2, bs_listW2]
          exact beq_eq_false_iff_ne.2 (before_ne hlt).symm
        clear hcn hne2 hB hlt
        go_wp2
        go_quiet (fail)
        go_wp2
        go_roundg (NL.length - (k + 1))
        case measure => omega
        case rel => exact ⟨k + 1, by go_num, hkl2, rfl, below_drewN HBn.out _⟩
    · obtain rfl : k = NL.length := by omega
      have C27 := Lib.hid (C26.out.trans (hB.mono C26.out.size))
      have HN27 := Lib.hid ((HN26.out.below hB).more hB.size)
      clear hB
      obtain ⟨wq, hwq⟩ : ∃ x, x = wr := ⟨_, rfl⟩
      subst hwq
      go_wp2
      go_loopg [22] l.length (fun gh vi wr => ∃ k : Nat, vi = .int .i64 k ∧ k ≤ l.length ∧ gh = l.length - k ∧ wr = wq)
      case atStart => exact ⟨0, rfl, Nat.zero_le _, rfl, rfl⟩
      case round =>
        obtain ⟨k, rfl, hk, hgm, rfl⟩ := hrel
        by_cases hkl3 : k < l.length
        · obtain ⟨gl, ol, rfl, hgl, hcl⟩ := HXL.out (by omega)
          have d1 := ((HBW.out _ C27.out).cell (p := ⟨gl, ol + k * 5 + 1, none⟩) hgl).trans (hcl k hkl3).2.1
          have b1 : (0 : Int) ≤ (k : Int) := by omega
          have b2 : (k : Int) < (l.length : Int) := by omega
          have hin : inTexts l[k].r.name NL = true := List.any_eq_true.2 ⟨_, HMEM.out _ (List.getElem_mem hkl3), by simp⟩
          have IT := Lib.hid (InTexts_any _ l[k].r.name NL (by omega) _ wr HN27.out)
          rw [hin] at IT
          clear hcl hin
          go_wp2_with fail
          refine IT.out.mono ?_
          rintro z wz ⟨rfl, rfl⟩
          go_wp2
          go_roundg (l.length - (k + 1))
          case measure => omega
          case rel => exact ⟨k + 1, by go_num, hkl3, rfl, rfl⟩
        · obtain rfl : k = l.length := by omega
          have hnli : (NL.length : Int) ≤ (l.length : Int) := by omega
          go_wp2
          go_ret
          exact ⟨rfl, HBW.out _ C27.out⟩
theorem TrailTells_walk (a : Nat → Addr) (v : Value) (l : EntL) (sl : Value) (e : Ent) (t : ByteArray) (day many : Int) (hl : l.length ≤ maxLen) (ho : ∀ x ∈ l, EntO x) (he : EntO e) (hts : t.size ≤ maxLen) (w : World) (hv : RdT w w.heap.size v l) (hsl : RdI w w.heap.size sl e.r.ids) (h : Sents a w) :
    Calls Tryz.prog 4 #[v, entV (e, sl), .string t, .int .i64 day, .int .i64 many] w fun x w' => x = .returned (.bool true) ∧ Below w.heap.size w w' := by
  by_cases h1 : longT l = true
  · exact TrTl_a a v l sl e t day many hl ho he hts h1 w hv hsl h
  · have h1' : longT l = false := by simpa using h1
    by_cases h2 : 0 < longR e.r
    · exact TrTl_b a v l sl e t day many hl ho he hts h1' h2 w hv hsl h
    · by_cases h3 : 30 < t.size
      · exact TrTl_c a v l sl e t day many hl ho he hts h1' h2 h3 w hv hsl h
      · exact TrTl_m a v l sl e t day many hl ho he hts h1' h2 h3 w hv hsl h
end Go.Proofs.YtbokckjlgjnnjaaGreatDoor

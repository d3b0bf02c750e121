/- Walk of the law PrintParts. Condition: the tables and MaxLen lie as named (PrW). -/
import Derived.Test.YtpacalklcdlhoaaDoorPrL
namespace Go.Proofs.YtpacalklcdlhoaaDoor
open Go.RowKit Go.Lib

theorem bytesWorld_frozen (w : World) (e : TypeId) (s : ByteArray) (j : Nat) (hj : j < s.size) : (Lib.bytesWorld w e s).frozen? ⟨w.heap.size, j, none⟩ = false := by
  have h := Lib.bytesWorld_at_new w e s
  have hc := Lib.bytesWorld_cell w e s j hj
  have hs : j < (Lib.bytesCells w e s).size := by
    unfold World.cell? at hc
    simp only [h] at hc
    rcases Nat.lt_or_ge j (Lib.bytesCells w e s).size with h1 | h1
    · exact h1
    · simp [Array.getElem?_eq_none h1] at hc
  unfold World.frozen?
  rw [h]
  simp
  omega
theorem set_split (l : Bytes) (k : Nat) (h : k < l.length) (c : UInt8) : l.set k c = l.take k ++ c :: l.drop (k + 1) := List.set_eq_take_append_cons_drop.trans (by rw [if_pos h])
theorem get_split (l : Bytes) (k : Nat) (h : k < l.length) : l = l.take k ++ l[k] :: l.drop (k + 1) := by
  rw [← List.drop_eq_getElem_cons h, List.take_append_drop]
/-- with one byte another one -/
theorem other_print (a b : Bytes) (k : Nat) (h : k < a.length) (c : UInt8) (hc : a[k] ≠ c) : prOf (a.set k c ++ b) ≠ prOf (a ++ b) := by
  have e2 : a ++ b = a.take k ++ a[k] :: (a.drop (k + 1) ++ b) := by
    rw [← List.cons_append, ← List.append_assoc, ← get_split a k h]
  rw [set_split a k h c, e2, List.append_assoc, List.cons_append]
  exact prOf_other _ _ _ _ (fun e => hc e.symm)
set_option maxRecDepth 100000 in
set_option maxHeartbeats 4000000 in
theorem PrintParts_some (a b : ByteArray) (at_ : Int) (c : UInt8) (p : Nat) (len : Int) (hp : p < 4294967296) (h0 : -9223372036854775808 ≤ len) (h1 : len ≤ 9223372036854775807) (w : World) (h : PrW w) (ha : a.size ≤ 300) (hb : b.size ≤ 300) :
    Calls Tryd.prog 5 #[.string a, .string b, .int .i64 at_, .int .u8 (c.toNat : Int), .agg #[.int .u32 (p : Int), .int .i64 len]] w fun e w' => e = .returned (.bool true) ∧ Below w.heap.size w w' := by
  have hb0 : Below w.heap.size w (w.alloc (.cells #[.int .u32 (p : Int), .int .i64 len] 25)) := (Below.refl _ w).alloc (Nat.le_refl _) _
  have hc0 : (w.alloc (.cells #[.int .u32 (p : Int), .int .i64 len] 25)).cell? ⟨w.heap.size, 0, none⟩ = some (.int .u32 (p : Int)) := by rw [World.cell?_alloc_at _ _ _ _ rfl]; rfl
  have hc1 : (w.alloc (.cells #[.int .u32 (p : Int), .int .i64 len] 25)).cell? ⟨w.heap.size, 1, none⟩ = some (.int .i64 len) := by rw [World.cell?_alloc_at _ _ _ _ rfl]; rfl
  have hz0 : w.heap.size < (w.alloc (.cells #[.int .u32 (p : Int), .int .i64 len] 25)).heap.size := by simp
  have H0 := Lib.hid (h.below hb0)
  have hsz : (a ++ b).size ≤ 600 := by rw [ByteArray.size_append]; omega
  have hab : (a ++ b).data.toList = a.data.toList ++ b.data.toList := by simp
  have hmore : prMore (prOf a.data.toList) b.data.toList = prOf (a ++ b).data.toList := by rw [hab]; unfold prOf; rw [prMore_append]
  have hq1 : (((prMore (prOf a.data.toList) b.data.toList : Nat) : Int) != ((prOf (a ++ b).data.toList : Nat) : Int)) = false := by rw [hmore]; simp
  have hofa := prOf_lt a.data.toList
  have HQ1 := Lib.hid hq1
  have HAB := Lib.hid hab
  clear h hmore hq1 hab
  go_enter Tryd.func5, Tryd.ntmps5
  go_wp2_with fail
  generalize w.alloc (.cells #[.int .u32 (p : Int), .int .i64 len] 25) = w0 at *
  refine (printed_any w0 H0.out).mono ?_
  rintro e w1 ⟨rfl, hb1⟩
  have d0 := (hb1.cell (p := ⟨w.heap.size, 0, none⟩) hz0).trans hc0
  have d1 := (hb1.cell (p := ⟨w.heap.size, 1, none⟩) hz0).trans hc1
  have H1 := Lib.hid (H0.out.below hb1)
  have hz1 : w.heap.size < w1.heap.size := Nat.lt_of_lt_of_le hz0 hb1.size
  have hB1 := hb0.trans (hb1.mono hb0.size)
  clear hb0 hc0 hc1 hz0 hb1
  go_wp2_with fail
  refine (POf_any a _ (by unfold maxLen; omega)).mono ?_
  rintro e w2 ⟨rfl, rfl⟩
  go_wp2_with fail
  refine (PMore_any (prOf a.data.toList) hofa b _ (by unfold maxLen; omega)).mono ?_
  rintro e w2 ⟨rfl, rfl⟩
  go_wp2_with fail
  refine (POf_any (a ++ b) _ (by unfold maxLen; omega)).mono ?_
  rintro e w2 ⟨rfl, rfl⟩
  have hq1 := HQ1.out
  generalize prMore (prOf a.data.toList) b.data.toList = m1 at *
  generalize hoab : prOf (a ++ b).data.toList = m2 at *
  have HO := Lib.hid hoab
  clear hoab
  by_cases hid : 0 ≤ len ∧ len < 1000000
  · obtain ⟨k0, rfl⟩ : ∃ k : Nat, len = k := ⟨len.toNat, by omega⟩
    have hk0 : k0 < 1000000 := by omega
    have i1 : (0 : Int) ≤ (k0 : Int) := by omega
    have i2 : (k0 : Int) < 1000000 := by omega
    have HRD : Hid (readId (bs (idText p (k0 : Int))).data.toList = some (p, k0)) := Lib.hid (by rw [bs_toList]; exact readId_text p k0 hp hk0)
    have hzt : (bs (idText p (k0 : Int))).size ≤ 2 ^ 30 := by
      rw [bs_size]; unfold idText
      split
      · simp
      · have := itoa_length_le (k0 : Int) h0 h1
        rw [List.length_append, List.length_cons]; unfold hex8; rw [hexL_length]; omega
    clear hid
    have HH0 := Lib.hid h0
    have HH1 := Lib.hid h1
    clear h0 h1
    go_wp2_with fail
    refine (Text_any p (k0 : Int) hp HH0.out HH1.out _ H1.out.t).mono ?_
    rintro e w2 ⟨rfl, hb2⟩
    have H2 := Lib.hid (H1.out.below hb2)
    go_wp2_with fail
    refine (Read_some _ hzt p k0 HRD.out _ H2.out.t H2.out.m).mono ?_
    rintro e w3 ⟨rfl, hb3⟩
    have hb4 := hb2.trans (hb3.mono hb2.size)
    have e0 := (hb4.cell (p := ⟨w.heap.size, 0, none⟩) hz1).trans d0
    have e1 := (hb4.cell (p := ⟨w.heap.size, 1, none⟩) hz1).trans d1
    have hb5 := hB1.trans (hb4.mono hB1.size)
    have hB5 := hb5.alloc hb5.size (.cells #[.int .u32 (p : Int), .int .i64 (k0 : Int)] 25)
    have hz3 : w.heap.size < w3.heap.size := Nat.lt_of_lt_of_le hz1 hb4.size
    clear hb2 hb3 hb4 hb5 d0 d1 hB1 hzt i1 i2
    by_cases hat : at_ < 0
    · go_wp2
      go_ret
      exact ⟨rfl, hB5⟩
    · by_cases hat2 : (a.size : Int) ≤ at_
      · go_wp2
        go_ret
        exact ⟨rfl, hB5⟩
      · obtain ⟨k, rfl⟩ : ∃ k : Nat, at_ = k := ⟨at_.toNat, by omega⟩
        have hk : k < a.size := by omega
        by_cases hx : a[k] = c
        · have hq2 : (((a[k].toNat : Nat) : Int) == (c.toNat : Int)) = true := by rw [hx]; simp
          clear hx
          go_wp2
          go_ret
          exact ⟨rfl, hB5⟩
        · have hq2 : (((a[k].toNat : Nat) : Int) == (c.toNat : Int)) = false := by
            rw [beq_eq_false_iff_ne]
            intro e
            exact hx (UInt8.toNat_inj.1 (by omega))
          have hkl : k < a.data.toList.length := by rw [← size_toList]; exact hk
          have hget : a.data.toList[k] = a[k] := list_ba a k hk hkl
          have hother := other_print a.data.toList b.data.toList k hkl c (by rw [hget]; exact hx)
          have hcv := Lib.run_convert_string_bytes (P := Tryd.prog) (w3.alloc (.cells #[.int .u32 (p : Int), .int .i64 (k0 : Int)] 25)) 9 55 5 a (u := .string) Tryd.underlying9 Tryd.underlying55 Tryd.underlying5
          have hcell : ∀ j (hj : j < a.data.toList.length), (Lib.bytesWorld (w3.alloc (.cells #[.int .u32 (p : Int), .int .i64 (k0 : Int)] 25)) 5 a).cell? ⟨(w3.alloc (.cells #[.int .u32 (p : Int), .int .i64 (k0 : Int)] 25)).heap.size, j, none⟩ = some (.int .u8 (a.data.toList[j].toNat : Int)) := fun j hj => by
            rw [Lib.bytesWorld_cell (w3.alloc (.cells #[.int .u32 (p : Int), .int .i64 (k0 : Int)] 25)) 5 a j (by rw [size_toList]; exact hj)]
            simp [List.getD, List.getElem?_eq_getElem hj]
          have hf := bytesWorld_frozen (w3.alloc (.cells #[.int .u32 (p : Int), .int .i64 (k0 : Int)] 25)) 5 a k hk
          have hbw := Lib.bytesWorld_below (w3.alloc (.cells #[.int .u32 (p : Int), .int .i64 (k0 : Int)] 25)) 5 a
          have hbx := hB5.trans (hbw.mono hB5.size)
          have hck := hcell k hkl
          have HCE := Lib.hid hcell
          have hcb := run_convert_bytes_back (P := Tryd.prog) ((Lib.bytesWorld (w3.alloc (.cells #[.int .u32 (p : Int), .int .i64 (k0 : Int)] 25)) 5 a).setCell ⟨(w3.alloc (.cells #[.int .u32 (p : Int), .int .i64 (k0 : Int)] 25)).heap.size, k, none⟩ (.int .u8 (c.toNat : Int))) 55 9 5 ⟨(w3.alloc (.cells #[.int .u32 (p : Int), .int .i64 (k0 : Int)] 25)).heap.size, 0, none⟩ (grownCap (w3.alloc (.cells #[.int .u32 (p : Int), .int .i64 (k0 : Int)] 25)) a.size 0 5) (a.data.toList.set k c) Tryd.underlying55 Tryd.underlying5 Tryd.underlying9 (fun j hj => by
            rw [Lib.add_plain, Nat.zero_add]
            have hj' : j < a.data.toList.length := by simpa using hj
            by_cases e : j = k
            · subst e
              rw [World.cell?_setCell_same _ _ _ (HCE.out j hj')]
              simp
            · rw [World.cell?_setCell_other _ _ _ _ (by intro h; injection h with _ h; exact e h.symm), HCE.out j hj']
              rw [List.getElem_set_ne (fun h => e h.symm)])
          rw [List.length_set, ← size_toList] at hcb
          have hz8 : (bs (a.data.toList.set k c) ++ b).size ≤ 600 := by rw [ByteArray.size_append, bs_size, List.length_set, ← size_toList]; omega
          have hz9 : (⟨(a.data.toList.set k c).toArray⟩ : ByteArray).size ≤ 300 := by
            show (bs (a.data.toList.set k c)).size ≤ 300
            rw [bs_size, List.length_set, ← size_toList]; omega
          have HOT : Hid (prOf ((⟨(a.data.toList.set k c).toArray⟩ : ByteArray) ++ b).data.toList ≠ m2) := Lib.hid (by
            rw [← HO.out, HAB.out]
            have : ((⟨(a.data.toList.set k c).toArray⟩ : ByteArray) ++ b).data.toList = a.data.toList.set k c ++ b.data.toList := by simp
            rw [this]
            exact hother)
          have hblk : (w3.alloc (.cells #[.int .u32 (p : Int), .int .i64 (k0 : Int)] 25)).heap.size = w3.heap.size + 1 := by first | rfl | simp
          have hbl2 : w.heap.size ≤ w3.heap.size + 1 := by rw [← hblk]; exact hB5.size
          rw [hblk] at hf hck hcb
          clear hx hget hother hcell
          generalize hWB : Lib.bytesWorld (w3.alloc (.cells #[.int .u32 (p : Int), .int .i64 (k0 : Int)] 25)) 5 a = WB at *
          clear hWB
          go_wp2_with fail
          refine (POf_any ((⟨(a.data.toList.set k c).toArray⟩ : ByteArray) ++ b) _ (by unfold maxLen; rw [ByteArray.size_append]; omega)).mono ?_
          rintro e w8 ⟨rfl, rfl⟩
          have hfin := hbx.setCell (p := ⟨w3.heap.size + 1, k, none⟩) hbl2 (.int .u8 (c.toNat : Int))
          have hq3 : (((prOf ((⟨(a.data.toList.set k c).toArray⟩ : ByteArray) ++ b).data.toList : Nat) : Int) != ((m2 : Nat) : Int)) = true := by
            rw [bne_iff_ne]; intro e; exact HOT.out (by omega)
          generalize prOf ((⟨(a.data.toList.set k c).toArray⟩ : ByteArray) ++ b).data.toList = m3 at *
          go_wp2_with fail
          refine (POf_any (a ++ b) _ (by unfold maxLen; omega)).mono ?_
          rintro e w9 ⟨rfl, rfl⟩
          rw [HO.out]
          go_wp2
          go_ret
          exact ⟨rfl, hfin⟩
  · have hid2 : len < 0 ∨ 1000000 ≤ len := by omega
    clear hid
    rcases hid2 with i1 | i1
    · by_cases hat : at_ < 0
      · go_wp2
        go_ret
        exact ⟨rfl, hB1⟩
      · by_cases hat2 : (a.size : Int) ≤ at_
        · go_wp2
          go_ret
          exact ⟨rfl, hB1⟩
        · obtain ⟨k, rfl⟩ : ∃ k : Nat, at_ = k := ⟨at_.toNat, by omega⟩
          have hk : k < a.size := by omega
          by_cases hx : a[k] = c
          · have hq2 : (((a[k].toNat : Nat) : Int) == (c.toNat : Int)) = true := by rw [hx]; simp
            clear hx
            go_wp2
            go_ret
            exact ⟨rfl, hB1⟩
          · have hq2 : (((a[k].toNat : Nat) : Int) == (c.toNat : Int)) = false := by
              rw [beq_eq_false_iff_ne]
              intro e
              exact hx (UInt8.toNat_inj.1 (by omega))
            have hkl : k < a.data.toList.length := by rw [← size_toList]; exact hk
            have hget : a.data.toList[k] = a[k] := list_ba a k hk hkl
            have hother := other_print a.data.toList b.data.toList k hkl c (by rw [hget]; exact hx)
            have hcv := Lib.run_convert_string_bytes (P := Tryd.prog) w1 9 55 5 a (u := .string) Tryd.underlying9 Tryd.underlying55 Tryd.underlying5
            have hcell : ∀ j (hj : j < a.data.toList.length), (Lib.bytesWorld w1 5 a).cell? ⟨w1.heap.size, j, none⟩ = some (.int .u8 (a.data.toList[j].toNat : Int)) := fun j hj => by
              rw [Lib.bytesWorld_cell w1 5 a j (by rw [size_toList]; exact hj)]
              simp [List.getD, List.getElem?_eq_getElem hj]
            have hf := bytesWorld_frozen w1 5 a k hk
            have hbw := Lib.bytesWorld_below w1 5 a
            have hbx := hB1.trans (hbw.mono hB1.size)
            have hck := hcell k hkl
            have HCE := Lib.hid hcell
            have hcb := run_convert_bytes_back (P := Tryd.prog) ((Lib.bytesWorld w1 5 a).setCell ⟨w1.heap.size, k, none⟩ (.int .u8 (c.toNat : Int))) 55 9 5 ⟨w1.heap.size, 0, none⟩ (grownCap w1 a.size 0 5) (a.data.toList.set k c) Tryd.underlying55 Tryd.underlying5 Tryd.underlying9 (fun j hj => by
              rw [Lib.add_plain, Nat.zero_add]
              have hj' : j < a.data.toList.length := by simpa using hj
              by_cases e : j = k
              · subst e
                rw [World.cell?_setCell_same _ _ _ (HCE.out j hj')]
                simp
              · rw [World.cell?_setCell_other _ _ _ _ (by intro h; injection h with _ h; exact e h.symm), HCE.out j hj']
                rw [List.getElem_set_ne (fun h => e h.symm)])
            rw [List.length_set, ← size_toList] at hcb
            have hz8 : (bs (a.data.toList.set k c) ++ b).size ≤ 600 := by rw [ByteArray.size_append, bs_size, List.length_set, ← size_toList]; omega
            have hz9 : (⟨(a.data.toList.set k c).toArray⟩ : ByteArray).size ≤ 300 := by
              show (bs (a.data.toList.set k c)).size ≤ 300
              rw [bs_size, List.length_set, ← size_toList]; omega
            have HOT : Hid (prOf ((⟨(a.data.toList.set k c).toArray⟩ : ByteArray) ++ b).data.toList ≠ m2) := Lib.hid (by
              rw [← HO.out, HAB.out]
              have : ((⟨(a.data.toList.set k c).toArray⟩ : ByteArray) ++ b).data.toList = a.data.toList.set k c ++ b.data.toList := by simp
              rw [this]
              exact hother)
            have hblk : w1.heap.size = w1.heap.size := by first | rfl | simp
            have hbl2 : w.heap.size ≤ w1.heap.size := by rw [← hblk]; exact hB1.size
            rw [hblk] at hf hck hcb
            clear hx hget hother hcell
            generalize hWB : Lib.bytesWorld w1 5 a = WB at *
            clear hWB
            go_wp2_with fail
            refine (POf_any ((⟨(a.data.toList.set k c).toArray⟩ : ByteArray) ++ b) _ (by unfold maxLen; rw [ByteArray.size_append]; omega)).mono ?_
            rintro e w8 ⟨rfl, rfl⟩
            have hfin := hbx.setCell (p := ⟨w1.heap.size, k, none⟩) hbl2 (.int .u8 (c.toNat : Int))
            have hq3 : (((prOf ((⟨(a.data.toList.set k c).toArray⟩ : ByteArray) ++ b).data.toList : Nat) : Int) != ((m2 : Nat) : Int)) = true := by
              rw [bne_iff_ne]; intro e; exact HOT.out (by omega)
            generalize prOf ((⟨(a.data.toList.set k c).toArray⟩ : ByteArray) ++ b).data.toList = m3 at *
            go_wp2_with fail
            refine (POf_any (a ++ b) _ (by unfold maxLen; omega)).mono ?_
            rintro e w9 ⟨rfl, rfl⟩
            rw [HO.out]
            go_wp2
            go_ret
            exact ⟨rfl, hfin⟩
    · by_cases hat : at_ < 0
      · go_wp2
        go_ret
        exact ⟨rfl, hB1⟩
      · by_cases hat2 : (a.size : Int) ≤ at_
        · go_wp2
          go_ret
          exact ⟨rfl, hB1⟩
        · obtain ⟨k, rfl⟩ : ∃ k : Nat, at_ = k := ⟨at_.toNat, by omega⟩
          have hk : k < a.size := by omega
          by_cases hx : a[k] = c
          · have hq2 : (((a[k].toNat : Nat) : Int) == (c.toNat : Int)) = true := by rw [hx]; simp
            clear hx
            go_wp2
            go_ret
            exact ⟨rfl, hB1⟩
          · have hq2 : (((a[k].toNat : Nat) : Int) == (c.toNat : Int)) = false := by
              rw [beq_eq_false_iff_ne]
              intro e
              exact hx (UInt8.toNat_inj.1 (by omega))
            have hkl : k < a.data.toList.length := by rw [← size_toList]; exact hk
            have hget : a.data.toList[k] = a[k] := list_ba a k hk hkl
            have hother := other_print a.data.toList b.data.toList k hkl c (by rw [hget]; exact hx)
            have hcv := Lib.run_convert_string_bytes (P := Tryd.prog) w1 9 55 5 a (u := .string) Tryd.underlying9 Tryd.underlying55 Tryd.underlying5
            have hcell : ∀ j (hj : j < a.data.toList.length), (Lib.bytesWorld w1 5 a).cell? ⟨w1.heap.size, j, none⟩ = some (.int .u8 (a.data.toList[j].toNat : Int)) := fun j hj => by
              rw [Lib.bytesWorld_cell w1 5 a j (by rw [size_toList]; exact hj)]
              simp [List.getD, List.getElem?_eq_getElem hj]
            have hf := bytesWorld_frozen w1 5 a k hk
            have hbw := Lib.bytesWorld_below w1 5 a
            have hbx := hB1.trans (hbw.mono hB1.size)
            have hck := hcell k hkl
            have HCE := Lib.hid hcell
            have hcb := run_convert_bytes_back (P := Tryd.prog) ((Lib.bytesWorld w1 5 a).setCell ⟨w1.heap.size, k, none⟩ (.int .u8 (c.toNat : Int))) 55 9 5 ⟨w1.heap.size, 0, none⟩ (grownCap w1 a.size 0 5) (a.data.toList.set k c) Tryd.underlying55 Tryd.underlying5 Tryd.underlying9 (fun j hj => by
              rw [Lib.add_plain, Nat.zero_add]
              have hj' : j < a.data.toList.length := by simpa using hj
              by_cases e : j = k
              · subst e
                rw [World.cell?_setCell_same _ _ _ (HCE.out j hj')]
                simp
              · rw [World.cell?_setCell_other _ _ _ _ (by intro h; injection h with _ h; exact e h.symm), HCE.out j hj']
                rw [List.getElem_set_ne (fun h => e h.symm)])
            rw [List.length_set, ← size_toList] at hcb
            have hz8 : (bs (a.data.toList.set k c) ++ b).size ≤ 600 := by rw [ByteArray.size_append, bs_size, List.length_set, ← size_toList]; omega
            have hz9 : (⟨(a.data.toList.set k c).toArray⟩ : ByteArray).size ≤ 300 := by
              show (bs (a.data.toList.set k c)).size ≤ 300
              rw [bs_size, List.length_set, ← size_toList]; omega
            have HOT : Hid (prOf ((⟨(a.data.toList.set k c).toArray⟩ : ByteArray) ++ b).data.toList ≠ m2) := Lib.hid (by
              rw [← HO.out, HAB.out]
              have : ((⟨(a.data.toList.set k c).toArray⟩ : ByteArray) ++ b).data.toList = a.data.toList.set k c ++ b.data.toList := by simp
              rw [this]
              exact hother)
            have hblk : w1.heap.size = w1.heap.size := by first | rfl | simp
            have hbl2 : w.heap.size ≤ w1.heap.size := by rw [← hblk]; exact hB1.size
            rw [hblk] at hf hck hcb
            clear hx hget hother hcell
            generalize hWB : Lib.bytesWorld w1 5 a = WB at *
            clear hWB
            go_wp2_with fail
            refine (POf_any ((⟨(a.data.toList.set k c).toArray⟩ : ByteArray) ++ b) _ (by unfold maxLen; rw [ByteArray.size_append]; omega)).mono ?_
            rintro e w8 ⟨rfl, rfl⟩
            have hfin := hbx.setCell (p := ⟨w1.heap.size, k, none⟩) hbl2 (.int .u8 (c.toNat : Int))
            have hq3 : (((prOf ((⟨(a.data.toList.set k c).toArray⟩ : ByteArray) ++ b).data.toList : Nat) : Int) != ((m2 : Nat) : Int)) = true := by
              rw [bne_iff_ne]; intro e; exact HOT.out (by omega)
            generalize prOf ((⟨(a.data.toList.set k c).toArray⟩ : ByteArray) ++ b).data.toList = m3 at *
            go_wp2_with fail
            refine (POf_any (a ++ b) _ (by unfold maxLen; omega)).mono ?_
            rintro e w9 ⟨rfl, rfl⟩
            rw [HO.out]
            go_wp2
            go_ret
            exact ⟨rfl, hfin⟩
set_option maxRecDepth 100000 in
theorem PrintParts_walk (a b : ByteArray) (at_ : Int) (x : Int) (hx0 : 0 ≤ x) (hx1 : x < 256) (p : Nat) (len : Int) (hp : p < 4294967296) (h0 : -9223372036854775808 ≤ len) (h1 : len ≤ 9223372036854775807) (ha : a.size ≤ maxLen) (hb : b.size ≤ maxLen) (w : World) (h : PrW w) :
    Calls Tryd.prog 5 #[.string a, .string b, .int .i64 at_, .int .u8 x, .agg #[.int .u32 (p : Int), .int .i64 len]] w fun e w' => e = .returned (.bool true) ∧ Below w.heap.size w w' := by
  unfold maxLen at ha hb
  by_cases h3 : a.size ≤ 300 ∧ b.size ≤ 300
  · have hx : x = ((UInt8.ofNat x.toNat).toNat : Int) := by
      have hx2 : (UInt8.ofNat x.toNat).toNat = x.toNat := UInt8.toNat_ofNat_of_lt' (show x.toNat < 256 by omega)
      rw [hx2]; omega
    rw [hx]
    exact PrintParts_some a b at_ _ p len hp h0 h1 w h h3.1 h3.2
  · have hb0 : Below w.heap.size w (w.alloc (.cells #[.int .u32 (p : Int), .int .i64 len] 25)) := (Below.refl _ w).alloc (Nat.le_refl _) _
    have H0 := Lib.hid (h.below hb0)
    clear h h0 h1
    by_cases h4 : a.size ≤ 300
    · have h5 : 300 < b.size := by omega
      clear h3
      go_enter Tryd.func5, Tryd.ntmps5
      go_wp2_with fail
      generalize w.alloc (.cells #[.int .u32 (p : Int), .int .i64 len] 25) = w0 at *
      refine (printed_any w0 H0.out).mono ?_
      rintro e w1 ⟨rfl, hb1⟩
      have hB1 := hb0.trans (hb1.mono hb0.size)
      go_wp2
      go_ret
      exact ⟨rfl, hB1⟩
    · have h5 : 300 < a.size := by omega
      clear h3 h4
      go_enter Tryd.func5, Tryd.ntmps5
      go_wp2_with fail
      generalize w.alloc (.cells #[.int .u32 (p : Int), .int .i64 len] 25) = w0 at *
      refine (printed_any w0 H0.out).mono ?_
      rintro e w1 ⟨rfl, hb1⟩
      have hB1 := hb0.trans (hb1.mono hb0.size)
      go_wp2
      go_ret
      exact ⟨rfl, hB1⟩
end Go.Proofs.YtpacalklcdlhoaaDoor

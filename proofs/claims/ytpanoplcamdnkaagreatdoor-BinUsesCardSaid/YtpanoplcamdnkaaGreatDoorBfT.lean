/- Walk of bin.Text. Condition: the library's tables lie as named (Tabs); bounds. -/
import Derived.Test.YtpanoplcamdnkaaGreatDoorPlainG
import Derived.Test.YtpanoplcamdnkaaGreatDoorHlds
import Derived.Test.YtpanoplcamdnkaaGreatDoorBldr
namespace Go.Proofs.YtpanoplcamdnkaaGreatDoor
open Go.RowKit Go.Lib

theorem idText_le30 (p : Nat) (l : Int) (h0 : -9223372036854775808 ≤ l) (h1 : l ≤ 9223372036854775807) : (idText p l).length ≤ 30 := by
  unfold idText
  split
  · simp
  · have : (hex8 p).length = 8 := hexL_length _ _
    have h2 := itoa_length_le l h0 h1
    simp only [List.length_append, List.length_cons]
    omega
theorem lineF_le {x : Hld} (hw : HldW x) : (lineF x).length ≤ 60 + x.text.length := by
  have h1 := idText_le30 x.id.1 x.id.2 hw.1.2.1 hw.1.2.2
  have h2 := itoa_length_le x.uses hw.2.1 hw.2.2
  unfold lineF
  simp only [List.length_append, List.length_cons, List.length_nil]
  omega
theorem textF_le {M : Nat} : ∀ {L : HldL}, (∀ x ∈ L, HldW x ∧ x.text.length ≤ M) → (textF L).length ≤ (60 + M) * L.length
  | [], _ => by simp [textF]
  | x :: r, h => by
    have h1 := textF_le (fun y hy => h y (List.mem_cons_of_mem _ hy))
    have h2 := h x List.mem_cons_self
    have h3 := lineF_le h2.1
    rw [textF_cons, List.length_append, List.length_cons, Nat.mul_add, Nat.mul_one]
    omega
theorem sz10 : (⟨#[10]⟩ : ByteArray).size = 1 := rfl
theorem sz32 : (⟨#[32]⟩ : ByteArray).size = 1 := rfl
set_option maxRecDepth 100000 in
set_option maxHeartbeats 4000000 in
theorem BnText_any (v : Value) (L : HldL) (hL : ∀ x ∈ L, HldW x ∧ x.text.length ≤ 100000) (hl : L.length ≤ 1000) (B : Nat) (w : World) (hv : RdL w B v L) (hBw : B ≤ w.heap.size) (h : Tabs w) :
    Calls Tryz.prog 27 #[v] w fun e w' => e = .returned (.string (bs (textF L))) ∧ Below w.heap.size w w' := by
  obtain ⟨A, c, rfl, hc, hx⟩ := hv.form
  have HX := Lib.hid hx
  have HT := Lib.hid h
  have HL := Lib.hid hL
  have HTK : Hid (∀ k, (textF (L.take k)).length ≤ 100060000) := Lib.hid (fun k => by
    have h1 := textF_le (L := L.take k) (M := 100000) (fun x hx => hL x (List.mem_of_mem_take hx))
    have h2 : (L.take k).length ≤ 1000 := by rw [List.length_take]; omega
    omega)
  clear hx h hL hv
  go_enter Tryz.func27, Tryz.ntmps27
  go_wp2
  go_loopg [8] L.length (fun gh v8 wr => ∃ k : Nat, v8 = .int .i64 k ∧ k ≤ L.length ∧ gh = L.length - k ∧ SbHas w.heap.size w.heap.size (textF (L.take k)) wr ∧ Below w.heap.size w wr ∧ w.heap.size < wr.heap.size)
  case atStart => exact ⟨0, rfl, Nat.zero_le _, rfl, SbHas.fresh w, (Below.refl _ _).alloc (Nat.le_refl _) _, by simp⟩
  case round =>
    obtain ⟨k, rfl, hk, hgm, hsb, hB, hsz⟩ := hrel
    by_cases hkl : k < L.length
    · obtain ⟨g, o, rfl, hg, hcells⟩ := HX.out (by omega)
      obtain ⟨x0, x1, x2, x3⟩ := hcells k hkl
      have hgl : g < w.heap.size := Nat.lt_of_lt_of_le hg hBw
      have HNX : Hid (textF (L.take (k + 1)) = textF (L.take k) ++ lineF L[k]) := Lib.hid (by rw [List.take_succ_eq_append_getElem hkl, textF_snoc])
      obtain ⟨hw, ht⟩ := HL.out L[k] (List.getElem_mem hkl)
      clear hcells
      generalize L[k] = x at *
      have p0 := (hB.cell (p := ⟨g, o + k * 4, none⟩) hgl).trans x0
      have p1 := (hB.cell (p := ⟨g, o + k * 4 + 1, none⟩) hgl).trans x1
      have p2 := (hB.cell (p := ⟨g, o + k * 4 + 2, none⟩) hgl).trans x2
      have p3 := (hB.cell (p := ⟨g, o + k * 4 + 3, none⟩) hgl).trans x3
      have b1 : (0 : Int) ≤ (k : Int) := by omega
      have b2 : (k : Int) < (L.length : Int) := by omega
      have hb0 : Below wr.heap.size wr (wr.alloc (.cells #[.int .u32 (x.id.1 : Int), .int .i64 x.id.2, .int .i64 x.uses, .string (bs x.text)] 82)) := (Below.refl _ _).alloc (Nat.le_refl _) _
      have hx4 : Box4 wr.heap.size (.int .u32 (x.id.1 : Int)) (.int .i64 x.id.2) (.int .i64 x.uses) (.string (bs x.text)) (wr.alloc (.cells #[.int .u32 (x.id.1 : Int), .int .i64 x.id.2, .int .i64 x.uses, .string (bs x.text)] 82)) := Box4.mk' _ _ _ _ _ _
      have HSB := Lib.hid (hsb.below hb0)
      have HB1 := Lib.hid (hB.trans (hb0.mono hB.size))
      have HT1 := Lib.hid (HT.out.below HB1.out)
      have HTX : Hid (∀ w', Tabs w' → Calls Tryz.prog 74 #[idV x.id] w' fun e w2 => e = .returned (.string (bs (idText x.id.1 x.id.2))) ∧ Below w'.heap.size w' w2) := Lib.hid (fun w' h' => Text_any x.id.1 x.id.2 hw.1.1 hw.1.2.1 hw.1.2.2 w' h')
      have HIT : Hid (∀ w', Tabs w' → Calls Tryz.prog 75 #[.int .i64 x.uses] w' fun e w2 => e = .returned (.string (bs (itoa x.uses))) ∧ Below w'.heap.size w' w2) := Lib.hid (fun w' h' => Itoa_any x.uses hw.2.1 hw.2.2 w' h')
      have hs1 : (bs (idText x.id.1 x.id.2)).size ≤ 30 := by rw [bs_size]; exact idText_le30 _ _ hw.1.2.1 hw.1.2.2
      have hs2 : (bs (itoa x.uses)).size ≤ 21 := by rw [bs_size]; exact itoa_length_le _ hw.2.1 hw.2.2
      have hs3 : (bs x.text).size ≤ 100000 := by rw [bs_size]; exact ht
      have HX4 := Lib.hid hx4
      have HLN : Hid ((bs (idText x.id.1 x.id.2) ++ ⟨#[32]⟩ ++ bs (itoa x.uses) ++ ⟨#[10]⟩ ++ bs x.text ++ ⟨#[10]⟩).data.toList = lineF x) := Lib.hid (by
        have : bs (idText x.id.1 x.id.2) ++ ⟨#[32]⟩ ++ bs (itoa x.uses) ++ ⟨#[10]⟩ ++ bs x.text ++ ⟨#[10]⟩ = bs (lineF x) := by
          unfold lineF
          rw [show idText x.id.1 x.id.2 ++ 32 :: (itoa x.uses ++ 10 :: (x.text ++ [10])) = ((((idText x.id.1 x.id.2 ++ [32]) ++ itoa x.uses) ++ [10]) ++ x.text) ++ [10] by simp, ← cat_bs, ← cat_bs, ← cat_bs, ← cat_bs, ← cat_bs]
          rfl
        rw [this, bs_toList])
      have HS1 := Lib.hid hs1
      have HS2 := Lib.hid hs2
      have HS3z := Lib.hid hs3
      clear hs1 hs2 hs3
      clear hw ht x0 x1 x2 x3 hsb hx4 hb0
      go_wp2_with fail
      generalize hw1 : wr.alloc (.cells #[.int .u32 (x.id.1 : Int), .int .i64 x.id.2, .int .i64 x.uses, .string (bs x.text)] 82) = w1 at *
      have HW1 : Hid (wr.heap.size < w1.heap.size) := Lib.hid (by rw [← hw1]; simp)
      clear hw1
      generalize bs (idText x.id.1 x.id.2) = T1 at *
      generalize bs (itoa x.uses) = T2 at *
      generalize bs x.text = T3 at *
      have hS0 : Below w1.heap.size w1 w1.drew := (Below.refl _ _).drew
      refine region_S (fun w' => Below w1.heap.size w1 w') 13 (by kernel_rfl) (by kernel_rfl) ?_
      refine take_S 0 rfl (by kernel_rfl) (by kernel_rfl) hS0 (fun w' hS => by go_simp; rfl) ?_
      refine take_S 1 rfl (by kernel_rfl) (by kernel_rfl) hS0 (fun w' hS => by have A0 := (HX4.out.below hS HW1.out).c0; have A1 := (HX4.out.below hS HW1.out).c1; go_simp; rfl) ?_
      refine take_S 4 rfl (by kernel_rfl) (by kernel_rfl) hS0 (fun w' hS => by go_simp; rfl) ?_
      refine take_S 5 rfl (by kernel_rfl) (by kernel_rfl) hS0 (fun w' hS => by have A0 := (HX4.out.below hS HW1.out).c2; go_simp; rfl) ?_
      refine take_S 9 rfl (by kernel_rfl) (by kernel_rfl) hS0 (fun w' hS => by go_simp; rfl) ?_
      refine take_S 10 rfl (by kernel_rfl) (by kernel_rfl) hS0 (fun w' hS => by have A0 := (HX4.out.below hS HW1.out).c3; go_simp; rfl) ?_
      refine carry_S 2 rfl (by kernel_rfl) (by decide) (by kernel_rfl) (fun K hK => ?_)
      go_simp
      refine (HTX.out _ (HT1.out.below hS0)).mono ?_
      rintro e w2 ⟨rfl, hb2⟩
      have hS2 : Below w1.heap.size w1 w2 := hS0.trans (hb2.mono hS0.size)
      refine hK _ _ hS2 ?_
      clear hK K
      try simp only [Act.put, List.getElem_toArray, List.getElem_cons_succ, List.getElem_cons_zero, List.setIfInBounds_toArray, List.set_cons_zero, List.set_cons_succ]
      refine take_S 3 rfl (by kernel_rfl) (by kernel_rfl) hS2 (fun w' hS => by go_simp; rw [if_neg (by have z1 := HS1.out; have z2 := HS2.out; have z3 := HS3z.out; (try simp only [ByteArray.size_append, sz10, sz32]); omega)]) ?_
      refine carry_S 6 rfl (by kernel_rfl) (by decide) (by kernel_rfl) (fun K hK => ?_)
      go_simp
      refine (HIT.out _ (HT1.out.below hS2)).mono ?_
      rintro e w3 ⟨rfl, hb3⟩
      have hS3 : Below w1.heap.size w1 w3 := hS2.trans (hb3.mono hS2.size)
      refine hK _ _ hS3 ?_
      clear hK K
      try simp only [Act.put, List.getElem_toArray, List.getElem_cons_succ, List.getElem_cons_zero, List.setIfInBounds_toArray, List.set_cons_zero, List.set_cons_succ]
      refine take_S 7 rfl (by kernel_rfl) (by kernel_rfl) hS3 (fun w' hS => by go_simp; rw [if_neg (by have z1 := HS1.out; have z2 := HS2.out; have z3 := HS3z.out; (try simp only [ByteArray.size_append, sz10, sz32]); omega)]) ?_
      refine take_S 8 rfl (by kernel_rfl) (by kernel_rfl) hS3 (fun w' hS => by go_simp; rw [if_neg (by have z1 := HS1.out; have z2 := HS2.out; have z3 := HS3z.out; (try simp only [ByteArray.size_append, sz10, sz32]); omega)]) ?_
      refine take_S 11 rfl (by kernel_rfl) (by kernel_rfl) hS3 (fun w' hS => by go_simp; rw [if_neg (by have z1 := HS1.out; have z2 := HS2.out; have z3 := HS3z.out; (try simp only [ByteArray.size_append, sz10, sz32]); omega)]) ?_
      refine take_S 12 rfl (by kernel_rfl) (by kernel_rfl) hS3 (fun w' hS => by go_simp; rw [if_neg (by have z1 := HS1.out; have z2 := HS2.out; have z3 := HS3z.out; (try simp only [ByteArray.size_append, sz10, sz32]); omega)]) (forced_S (by kernel_rfl) ?_)
      simp only [List.drop_succ_cons, List.drop_zero]
      have HS3 := Lib.hid hS3
      have HSB3 := Lib.hid (HSB.out.below hS3)
      have hlen : (textF (L.take k)).length + (T1 ++ ⟨#[32]⟩ ++ T2 ++ ⟨#[10]⟩ ++ T3 ++ ⟨#[10]⟩).size ≤ 140737488355328 := by have := HTK.out k; have z1 := HS1.out; have z2 := HS2.out; have z3 := HS3z.out; simp only [ByteArray.size_append, sz10, sz32]; omega
      have hB3 := HB1.out.trans (hS3.mono HB1.out.size)
      have HB3 := Lib.hid hB3
      have hBw3 : w.heap.size ≤ w3.heap.size := hB3.size
      clear hS0 hS2 hS3 hb2 hb3 hB3
      go_wp2_with fail
      refine (SbWrite_any w.heap.size w.heap.size (textF (L.take k)) _ w3 HSB3.out hlen hBw3).mono ?_
      rintro e w4 ⟨rfl, hsb4, hb4⟩
      rw [HLN.out, ← HNX.out] at hsb4
      have HSB4 := Lib.hid hsb4
      have HB4 := Lib.hid (HB3.out.trans hb4)
      have hsz4 : w.heap.size < w4.heap.size := by have := HS3.out.size; have := HW1.out; have := hb4.size; have := hsz; omega
      clear hsb4 hb4 hlen
      go_wp2
      go_roundg (L.length - (k + 1))
      case measure => omega
      case rel => exact ⟨k + 1, by go_num, hkl, rfl, HSB4.out, HB4.out, hsz4⟩
    · obtain rfl : k = L.length := by omega
      rw [List.take_length] at hsb
      have HSB := Lib.hid hsb
      clear hsb
      go_wp2_with fail
      refine (Tryz.Builder_String_any w.heap.size w.heap.size (textF L) wr HSB.out hB.size).mono ?_
      rintro e w2 ⟨rfl, hb2⟩
      have HB2 := Lib.hid (hB.trans hb2)
      clear hb2
      go_wp2
      go_ret
      exact ⟨rfl, HB2.out⟩
end Go.Proofs.YtpanoplcamdnkaaGreatDoor

/- Walk of printed (a closed fact). Condition: the tables and MaxLen lie as named (PrW). -/
import Derived.Test.YtpacalklcdlhoaaDoorPrW
namespace Go.Proofs.YtpacalklcdlhoaaDoor
open Go.RowKit Go.Lib

structure PrW (w : World) : Prop where
  t : Tabs w
  m : MaxL w
theorem PrW.below {w w' : World} (h : PrW w) (hb : Below w.heap.size w w') : PrW w' := ⟨h.t.below hb, h.m.below hb⟩
theorem hexc_no (d : Nat) (h : d < 16) : hexc d ≠ 45 := (show ∀ e : Fin 16, hexc e.1 ≠ 45 by decide) ⟨d, h⟩
theorem hex8_no (p : Nat) : (45 : UInt8) ∉ hex8 p := fun h => by
  unfold hex8 hexL at h
  obtain ⟨j, _, hj⟩ := List.mem_map.1 h
  exact hexc_no _ (Nat.mod_lt _ (by decide)) hj
/-- what is written is read -/
theorem readId_text (p k : Nat) (hp : p < 4294967296) (hk : k < 1000000) : readId (idText p (k : Int)) = some (p, k) := by
  unfold idText
  rw [if_neg (by omega), itoa_nat]
  unfold readId
  rw [byteCut_of 45 (hex8 p) _ (hex8_no p)]
  simp only [unhexOf_hex8 p hp, numOf_dec k 6 (by omega) (by rw [decDigits_length]; exact nDigits_le_of k 5 (by omega))]
theorem decDigits_zero : decDigits 0 = [48] := by rw [decDigits, dif_pos (by decide)]; rfl
theorem prText0 : idText 2166136261 0 = [56, 49, 49, 99, 57, 100, 99, 53, 45, 48] := by
  unfold idText
  rw [if_neg (by decide), show itoa 0 = [48] from by rw [show (0 : Int) = ((0 : Nat) : Int) from rfl, itoa_nat, decDigits_zero]]
  decide +kernel
theorem prRead0 : readId [56, 49, 49, 99, 57, 100, 99, 53, 45, 48] = some (2166136261, 0) := by
  rw [← prText0]
  exact readId_text 2166136261 0 (by decide) (by decide)
set_option maxRecDepth 100000 in
set_option maxHeartbeats 1000000 in
theorem printed_any (w : World) (h : PrW w) : Calls Tryd.prog 25 #[] w fun e w' => e = .returned (.bool true) ∧ Below w.heap.size w w' := by
  have H := Lib.hid h
  clear h
  go_enter Tryd.func25, Tryd.ntmps25
  go_wp2_with fail
  refine (Read_some ⟨#[56, 49, 49, 99, 57, 100, 99, 53, 45, 48]⟩ (by decide) 2166136261 0 prRead0 _ H.out.t H.out.m).mono ?_
  rintro e w1 ⟨rfl, hb1⟩
  have hb2 := hb1.alloc hb1.size (.cells #[.int .u32 2166136261, .int .i64 0] 25)
  have c0 : (w1.alloc (.cells #[.int .u32 2166136261, .int .i64 0] 25)).cell? ⟨w1.heap.size, 0, none⟩ = some (.int .u32 2166136261) := by rw [World.cell?_alloc_at _ _ _ _ rfl]; rfl
  have c1 : (w1.alloc (.cells #[.int .u32 2166136261, .int .i64 0] 25)).cell? ⟨w1.heap.size, 1, none⟩ = some (.int .i64 0) := by rw [World.cell?_alloc_at _ _ _ _ rfl]; rfl
  have hz : w1.heap.size < (w1.alloc (.cells #[.int .u32 2166136261, .int .i64 0] 25)).heap.size := by simp
  have H2 := Lib.hid (H.out.below hb2)
  go_wp2
  generalize w1.alloc (.cells #[.int .u32 2166136261, .int .i64 0] 25) = w2 at *
  have cc : ∀ w', Below w2.heap.size w2 w' → w'.cell? ⟨w1.heap.size, 0, none⟩ = some (.int .u32 2166136261) ∧ w'.cell? ⟨w1.heap.size, 1, none⟩ = some (.int .i64 0) := fun w' hb => ⟨(hb.cell (p := ⟨w1.heap.size, 0, none⟩) hz).trans c0, (hb.cell (p := ⟨w1.heap.size, 1, none⟩) hz).trans c1⟩
  have CC := Lib.hid cc
  clear cc c0 c1 hb1
  have hB0 : Below w2.heap.size w2 w2.drew := (Below.refl _ w2).drew
  refine region_S (fun w' => Below w2.heap.size w2 w') 14 (by kernel_rfl) (by kernel_rfl) ?_
  refine take_S 0 rfl (by kernel_rfl) rfl hB0 (fun w' hS => by go_simp; rfl) ?_
  refine take_S 1 rfl (by kernel_rfl) rfl hB0 (fun w' hS => by go_simp; rfl) ?_
  refine take_S 2 rfl (by kernel_rfl) rfl hB0 (fun w' hS => by go_simp; rfl) ?_
  refine take_S 3 rfl (by kernel_rfl) rfl hB0 (fun w' hS => by obtain ⟨h1, h2⟩ := CC.out w' hS; go_simp; rfl) ?_
  refine carry_S 4 rfl (by kernel_rfl) (by decide) (by kernel_rfl) (fun K hK => ?_)
  go_simp
  refine (ID_any ⟨#[]⟩ _ (by decide)).mono ?_
  rintro e w3 ⟨rfl, hb3⟩
  have hB3 : Below w2.heap.size w2 w3 := hB0.trans (hb3.mono hB0.size)
  refine hK _ _ hB3 ?_
  clear hK K
  try simp only [Act.put, List.setIfInBounds_toArray, List.set_cons_zero, List.set_cons_succ]
  refine take_S 5 rfl (by kernel_rfl) (by kernel_rfl) hB3 (fun w' hS => by go_simp; rfl) ?_
  refine take_S 6 rfl (by kernel_rfl) (by kernel_rfl) hB3 (fun w' hS => by go_simp; rfl) ?_
  refine take_S 7 rfl (by kernel_rfl) (by kernel_rfl) hB3 (fun w' hS => by go_simp; rfl) ?_
  refine take_S 8 rfl (by kernel_rfl) (by kernel_rfl) hB3 (fun w' hS => by obtain ⟨h1, h2⟩ := CC.out w' hS; go_simp; rfl) ?_
  refine carry_S 9 rfl (by kernel_rfl) (by decide) (by kernel_rfl) (fun K hK => ?_)
  go_simp
  refine (Text_any 2166136261 0 (by decide) (by decide) (by decide) _ (H2.out.below hB3).t).mono ?_
  rintro e w4 ⟨rfl, hb4⟩
  have hB4 : Below w2.heap.size w2 w4 := hB3.trans (hb4.mono hB3.size)
  refine hK _ _ hB4 ?_
  clear hK K
  rw [prText0, show bs [56, 49, 49, 99, 57, 100, 99, 53, 45, 48] = (⟨#[56, 49, 49, 99, 57, 100, 99, 53, 45, 48]⟩ : ByteArray) from rfl]
  try simp only [Act.put, List.setIfInBounds_toArray, List.set_cons_zero, List.set_cons_succ]
  refine take_S 10 rfl (by kernel_rfl) (by kernel_rfl) hB4 (fun w' hS => by go_simp; rfl) ?_
  refine take_S 11 rfl (by kernel_rfl) (by kernel_rfl) hB4 (fun w' hS => by go_simp; rfl) ?_
  refine take_S 12 rfl (by kernel_rfl) (by kernel_rfl) hB4 (fun w' hS => by go_simp; rfl) ?_
  refine carry_S 13 rfl (by kernel_rfl) (by decide) (by kernel_rfl) (fun K hK => ?_)
  go_simp
  refine (POf_any ⟨#[]⟩ _ (by decide)).mono ?_
  rintro e w5 ⟨rfl, rfl⟩
  refine hK _ _ hB4 (forced_S (by kernel_rfl) ?_)
  clear hK K
  try simp only [Act.put, List.setIfInBounds_toArray, List.set_cons_zero, List.set_cons_succ]
  simp only [List.drop_succ_cons, List.drop_zero]
  go_wp2
  go_ret
  exact ⟨rfl, hb2.trans (hB4.mono hb2.size)⟩
end Go.Proofs.YtpacalklcdlhoaaDoor

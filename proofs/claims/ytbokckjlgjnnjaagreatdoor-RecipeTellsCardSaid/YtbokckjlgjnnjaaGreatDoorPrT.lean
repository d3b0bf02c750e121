/- Walks of print.Hex, strconv.Itoa, print.Text, print.ID. Condition: the library's tables lie as the text lays them (Tabs). -/
import Derived.Test.YtbokckjlgjnnjaaGreatDoorPrF
import Derived.Test.YtbokckjlgjnnjaaGreatDoorTabs
import Derived.Test.YtbokckjlgjnnjaaGreatDoorPlainN
import Derived.Lib.ItoaLen
import Derived.Test.YtbokckjlgjnnjaaGreatDoorHeld
namespace Go.Proofs.YtbokckjlgjnnjaaGreatDoor
open Go.RowKit Go.Lib

theorem Itoa_any (n : Int) (h0 : -9223372036854775808 ≤ n) (h1 : n ≤ 9223372036854775807) (w : World) (h : Tabs w) :
    Calls Tryz.prog 63 #[.int .i64 n] w fun e w' => e = .returned (.string (bs (itoa n))) ∧ Below w.heap.size w w' :=
  (Tryz.strconv_Itoa n h0 h1 w h.tab).mono fun e w' ⟨he, k, os, hw⟩ => ⟨he, by rw [hw]; exact Lib.below_grow _ _ (Nat.le_refl _) _ _⟩
theorem cat_bs (a b : Bytes) : bs a ++ bs b = bs (a ++ b) := by
  apply ba_ext
  rw [bs_toList, show (bs a ++ bs b).data.toList = (bs a).data.toList ++ (bs b).data.toList by simp, bs_toList, bs_toList]
theorem repeatL_zero (c : Nat) : repeatL [48] c = List.replicate c 48 := by
  induction c with
  | zero => rfl
  | succ c ih => rw [repeatL, ih]; rfl
theorem Repeat0_any (c : Nat) (hc : c ≤ 8) (w : World) :
    Calls Tryz.prog 95 #[.string ⟨#[48]⟩, .int .i64 (c : Int)] w fun e w' => e = .returned (.string (bs (List.replicate c 48))) ∧ Below w.heap.size w w' :=
  (Tryz.strings_Repeat ⟨#[48]⟩ c _ (by omega) (by rw [show (⟨#[48]⟩ : ByteArray).size = 1 from rfl]; omega)).mono fun e w' ⟨he, hb⟩ => ⟨by rw [he, ← repeatL_zero]; rfl, hb⟩
theorem Hex_any (n : Nat) (hn : n < 4294967296) (w : World) (h : Tabs w) :
    Calls Tryz.prog 64 #[.int .u32 (n : Int)] w fun e w' => e = .returned (.string (bs (hex8 n))) ∧ Below w.heap.size w w' := by
  have HT := Lib.hid h
  clear h
  go_enter Tryz.func64, Tryz.ntmps64
  go_wp2_with fail
  refine (FormatUint_any n hn _ HT.out.db).mono ?_
  rintro e w1 ⟨L, h1, h2, h3, rfl, hb⟩
  have HQ := Lib.hid (hex8_of n L h3 h2)
  have hsz : ((bs (hexL n L)).size : Int) = (L : Int) := by rw [bs_size, hexL_length]
  go_wp2_with fail
  rw [show (8 - (L : Int)) = ((8 - L : Nat) : Int) by omega]
  refine (Repeat0_any (8 - L) (by omega) _).mono ?_
  rintro e w2 ⟨rfl, hb2⟩
  have hz2 : (bs (List.replicate (8 - L) 48)).size = 8 - L := by rw [bs_size, List.length_replicate]
  have hb3 := hb.trans (hb2.mono hb.size)
  clear hb hb2
  go_wp2
  go_ret
  exact ⟨by rw [← HQ.out, ← cat_bs]; rfl, hb3⟩
def idText (p : Nat) (l : Int) : Bytes := if l < 0 then [] else hex8 p ++ 45 :: itoa l
theorem Text_any (p : Nat) (l : Int) (hp : p < 4294967296) (h0 : -9223372036854775808 ≤ l) (h1 : l ≤ 9223372036854775807) (w : World) (h : Tabs w) :
    Calls Tryz.prog 65 #[.agg #[.int .u32 (p : Int), .int .i64 l]] w fun e w' => e = .returned (.string (bs (idText p l))) ∧ Below w.heap.size w w' := by
  have HT := Lib.hid h
  clear h
  by_cases hl : l < 0
  · have HQ : Hid (idText p l = []) := Lib.hid (by unfold idText; rw [if_pos hl])
    have hb := (Below.refl w.heap.size w).alloc (Nat.le_refl _) (.cells #[.int .u32 (p : Int), .int .i64 l] 71)
    go_enter Tryz.func65, Tryz.ntmps65
    go_wp2
    go_ret
    exact ⟨by rw [HQ.out]; rfl, hb⟩
  · have HQ : Hid (idText p l = hex8 p ++ 45 :: itoa l) := Lib.hid (by unfold idText; rw [if_neg hl])
    have hz1 : (bs (hex8 p)).size = 8 := by rw [bs_size]; unfold hex8; rw [hexL_length]
    have hz3 : (bs (hex8 p) ++ ⟨#[45]⟩).size = 9 := by rw [ByteArray.size_append, hz1]; rfl
    have hz2 : (bs (itoa l)).size ≤ 21 := by rw [bs_size]; exact itoa_length_le l h0 h1
    have hb := (Below.refl w.heap.size w).alloc (Nat.le_refl _) (.cells #[.int .u32 (p : Int), .int .i64 l] 71)
    have c0 : (w.alloc (.cells #[.int .u32 (p : Int), .int .i64 l] 71)).cell? ⟨w.heap.size, 0, none⟩ = some (.int .u32 (p : Int)) := by rw [World.cell?_alloc_at _ _ _ _ rfl]; rfl
    have c1 : (w.alloc (.cells #[.int .u32 (p : Int), .int .i64 l] 71)).cell? ⟨w.heap.size, 1, none⟩ = some (.int .i64 l) := by rw [World.cell?_alloc_at _ _ _ _ rfl]; rfl
    have hlt : w.heap.size < (w.alloc (.cells #[.int .u32 (p : Int), .int .i64 l] 71)).heap.size := by simp
    go_enter Tryz.func65, Tryz.ntmps65
    go_wp2_with fail
    generalize w.alloc (.cells #[.int .u32 (p : Int), .int .i64 l] 71) = w1 at *
    have HT1 := Lib.hid (HT.out.below hb)
    have cc : ∀ w' : World, Below w1.heap.size w1 w' → w'.cell? ⟨w.heap.size, 0, none⟩ = some (.int .u32 (p : Int)) ∧ w'.cell? ⟨w.heap.size, 1, none⟩ = some (.int .i64 l) := fun w' h => ⟨(h.cell (p := ⟨w.heap.size, 0, none⟩) hlt).trans c0, (h.cell (p := ⟨w.heap.size, 1, none⟩) hlt).trans c1⟩
    have CC := Lib.hid cc
    clear cc c0 c1
    have hB0 : Below w1.heap.size w1 w1.drew := (Below.refl _ w1).drew
    refine region_S (fun w' => Below w1.heap.size w1 w') 7 (by kernel_rfl) (by kernel_rfl) ?_
    refine take_S 0 rfl (by kernel_rfl) rfl hB0 (fun w' hS => by go_simp; rfl) ?_
    refine take_S 1 rfl (by kernel_rfl) rfl hB0 (fun w' hS => by obtain ⟨h1, h2⟩ := CC.out w' hS; go_simp; rfl) ?_
    refine take_S 4 rfl (by kernel_rfl) rfl hB0 (fun w' hS => by go_simp; rfl) ?_
    refine take_S 5 rfl (by kernel_rfl) rfl hB0 (fun w' hS => by obtain ⟨h1, h2⟩ := CC.out w' hS; go_simp; rfl) ?_
    refine carry_S 2 rfl (by kernel_rfl) (by decide) rfl (fun K hK => ?_)
    go_simp
    refine (Hex_any p hp _ (HT1.out.below hB0)).mono ?_
    rintro e w2 ⟨rfl, hb2⟩
    have hB2 : Below w1.heap.size w1 w2 := hB0.trans (hb2.mono hB0.size)
    refine hK _ _ hB2 ?_
    clear hK K
    try simp only [Act.put, List.setIfInBounds_toArray, List.set_cons_zero, List.set_cons_succ]
    refine take_S 3 rfl (by kernel_rfl) rfl hB2 (fun w' hS => by go_simp; rfl) ?_
    refine carry_S 6 rfl (by kernel_rfl) (by decide) (by kernel_rfl) (fun K hK => ?_)
    go_simp
    refine (Itoa_any l h0 h1 _ (HT1.out.below hB2)).mono ?_
    rintro e w3 ⟨rfl, hb3⟩
    have hB3 : Below w1.heap.size w1 w3 := hB2.trans (hb3.mono hB2.size)
    refine hK _ _ hB3 (forced_S (by kernel_rfl) ?_)
    clear hK K
    try simp only [Act.put, List.setIfInBounds_toArray, List.set_cons_zero, List.set_cons_succ]
    simp only [List.drop_succ_cons, List.drop_zero]
    go_wp2
    go_ret
    refine ⟨?_, hb.trans (hB3.mono hb.size)⟩
    rw [HQ.out, show hex8 p ++ 45 :: itoa l = (hex8 p ++ [45]) ++ itoa l by simp, ← cat_bs, ← cat_bs]
    rfl
theorem ID_any (s : ByteArray) (w : World) (hs : s.size ≤ maxLen) :
    Calls Tryz.prog 45 #[.string s] w fun e w' => e = .returned (.agg #[.int .u32 (prOf s.data.toList : Nat), .int .i64 (s.size : Int)]) ∧ Below w.heap.size w w' := by
  go_enter Tryz.func45, Tryz.ntmps45
  go_wp2_with fail
  refine (POf_any s _ hs).mono ?_
  rintro e w1 ⟨rfl, rfl⟩
  have hb := (Below.refl w.heap.size w).alloc (Nat.le_refl _) (.cells #[.int .u32 0, .int .i64 0] 71)
  have hb1 := fun x => ((Below.refl w.heap.size w).alloc (Nat.le_refl _) (.cells #[.int .u32 ((prOf s.data.toList : Nat) : Int), x] 71))
  go_wp2
  go_returns
  exact ⟨rfl, hb1 _⟩
end Go.Proofs.YtbokckjlgjnnjaaGreatDoor

/- Walks of the reference's HexOf, IDText. No conditions but bounds. -/
import Derived.Test.YtpanoplcamdnkaaGreatDoorRefP
import Derived.Test.YtpanoplcamdnkaaGreatDoorPrR
import Derived.Lib.SlBytesConst
namespace Go.Proofs.YtpanoplcamdnkaaGreatDoor
open Go.RowKit Go.Lib

def digs16 : ByteArray := ⟨#[48, 49, 50, 51, 52, 53, 54, 55, 56, 57, 97, 98, 99, 100, 101, 102]⟩
theorem digs16_at (d : Nat) (hd : d < 16) : ∃ h : d < digs16.size, digs16[d] = hexc d :=
  (show ∀ e : Fin 16, ∃ h : e.1 < digs16.size, digs16[e.1] = hexc e.1 by decide +kernel) ⟨d, hd⟩
theorem idx_digs16 (z : Int) (d : Nat) (hz : z = (d : Int)) (hd : d < 16) (w : World) :
    (Instr.index 9 (.string ⟨#[48, 49, 50, 51, 52, 53, 54, 55, 56, 57, 97, 98, 99, 100, 101, 102]⟩) (.int .i64 z)).run Tryz.prog w = .ok (.int .u8 ((hexc d).toNat : Int)) w := by
  subst hz
  obtain ⟨h1, h2⟩ := digs16_at d hd
  have e : ((d : Int)).toNat = d := by omega
  rw [show (⟨#[48, 49, 50, 51, 52, 53, 54, 55, 56, 57, 97, 98, 99, 100, 101, 102]⟩ : ByteArray) = digs16 from rfl, run_index_string w 9 digs16 .i64 _ Tryz.underlying9, dif_pos ⟨by omega, by omega⟩]
  simp only [e]
  rw [h2]
/-- the row of 8 bytes: k digits stand at its end -/
structure Hy (b n k : Nat) (w : World) : Prop where
  isb : ∀ j, j < 8 → ∃ c, w.cell? ⟨b, j, none⟩ = some (.int .u8 c)
  nof : ∀ j, j < 8 → w.frozen? ⟨b, j, none⟩ = false
  dig : ∀ j, j < k → w.cell? ⟨b, 7 - j, none⟩ = some (.int .u8 ((hexAt n j).toNat : Int))
theorem Hy.start (n : Nat) (w : World) : Hy w.heap.size n 0 (w.alloc (.cells #[.int .u8 48, .int .u8 48, .int .u8 48, .int .u8 48, .int .u8 48, .int .u8 48, .int .u8 48, .int .u8 48] 5 (8, 9))) where
  isb j hj := ⟨48, by rw [World.cell?_alloc_mark]; match j, hj with | 0, _ | 1, _ | 2, _ | 3, _ | 4, _ | 5, _ | 6, _ | 7, _ => rfl⟩
  nof j hj := by
    unfold World.frozen?
    rw [heap_alloc_new]
    simp
    omega
  dig j hj := absurd hj (Nat.not_lt_zero _)
theorem Hy.step {b n k : Nat} {w : World} (h : Hy b n k w) (hk : k < 8) : Hy b n (k + 1) (w.setCell ⟨b, 7 - k, none⟩ (.int .u8 ((hexAt n k).toNat : Int))) where
  isb j hj := by
    by_cases he : j = 7 - k
    · subst he
      obtain ⟨c, hc⟩ := h.isb (7 - k) (by omega)
      exact ⟨_, World.cell?_setCell_same _ _ _ hc⟩
    · obtain ⟨c, hc⟩ := h.isb j hj
      exact ⟨c, by rw [World.cell?_setCell_other _ _ _ _ (by intro e; injection e; omega)]; exact hc⟩
  nof j hj := by rw [World.frozen?_setCell]; exact h.nof j hj
  dig j hj := by
    by_cases he : j = k
    · subst he
      obtain ⟨c, hc⟩ := h.isb (7 - j) (by omega)
      exact World.cell?_setCell_same _ _ _ hc
    · rw [World.cell?_setCell_other _ _ _ _ (by intro e; injection e; omega)]; exact h.dig j (by omega)
set_option maxRecDepth 100000 in
set_option maxHeartbeats 1000000 in
theorem RHexOf_any (n : Nat) (hn : n < 4294967296) (w : World) :
    Calls Tryz.prog 140 #[.int .u32 (n : Int)] w fun e w' => e = .returned (.string (bs (hex8 n))) ∧ Below w.heap.size w w' := by
  have kc := fun (w : World) (C : Array Value) (n c : Nat) => Lib.run_convert_bytes_const (P := Tryz.prog) w 138 5 C n c Tryz.underlying138 Tryz.underlying5
  have hst := Hy.start n w
  have hb0 := (Below.refl w.heap.size w).alloc (Nat.le_refl _) (.cells #[.int .u8 48, .int .u8 48, .int .u8 48, .int .u8 48, .int .u8 48, .int .u8 48, .int .u8 48, .int .u8 48] 5 (8, 9))
  go_enter Tryz.func140, Tryz.ntmps140
  go_wp2
  generalize w.alloc (.cells #[.int .u8 48, .int .u8 48, .int .u8 48, .int .u8 48, .int .u8 48, .int .u8 48, .int .u8 48, .int .u8 48] 5 (8, 9)) = w0 at *
  have HS0 := Lib.hid hst
  clear kc hst
  go_loopw [3, 5] (fun vx vi wr => ∃ (k : Nat) (x : Int), k ≤ 8 ∧ vx = .int .i64 x ∧ Hid (x = ((n / 16 ^ k : Nat) : Int)) ∧ vi = .int .i64 (7 - (k : Int)) ∧ Hy w.heap.size n k wr ∧ Below w.heap.size w wr) (fun _ vi _ => (RowKit.intOf vi + 1).toNat)
  case atStart => exact ⟨0, n, by omega, rfl, Lib.hid (by simp), rfl, HS0.out, hb0⟩
  case round =>
    obtain ⟨k, x, hk, rfl, hx0, rfl, hy, hb⟩ := hrel
    have hxn := hx0.out
    have hv : n / 16 ^ k < 4294967296 := Nat.lt_of_le_of_lt (Nat.div_le_self _ _) hn
    have hdv : hexAt n k = hexc (n / 16 ^ k % 16) := rfl
    have hnv : n / 16 ^ (k + 1) = n / 16 ^ k / 16 := by rw [Nat.pow_succ, Nat.div_div_eq_div_mul]
    generalize n / 16 ^ k = v at *
    have x0 : 0 ≤ x := by omega
    have x1 : x < 4294967296 := by omega
    by_cases hlt : k < 8
    · have hst1 := hy.step hlt
      have hd := hdv
      rw [hd] at hst1
      have hnx : Hid (x / 16 = ((n / 16 ^ (k + 1) : Nat) : Int)) := Lib.hid (by rw [hnv]; omega)
      have hidx := idx_digs16 (x % 16) (v % 16) (by omega) (Nat.mod_lt _ (by decide))
      have hidx2 := idx_digs16 (x.tmod 16) (v % 16) (by rw [Int.tmod_eq_emod_of_nonneg x0]; omega) (Nat.mod_lt _ (by decide))
      obtain ⟨c, hc⟩ := hy.isb (7 - k) (by omega)
      have hf := hy.nof (7 - k) (by omega)
      have hoff : ((7 : Int) - (k : Int)).toNat = 7 - k := by omega
      have b1 : (0 : Int) ≤ 7 - (k : Int) := by omega
      have b2 : (7 : Int) - (k : Int) < 8 := by omega
      have HST := Lib.hid hst1
      generalize hexc (v % 16) = cc at *
      have HX := Lib.hid hxn
      clear hst1 hd hdv hxn hv hnv
      go_wp2
      go_roundw
      case rel =>
        refine ⟨k + 1, x / 16, hlt, rfl, hnx, by go_num, ?_, ?_⟩
        · exact HST.out
        · exact hb.setCell (Nat.le_refl _) _
      case measure => simp [RowKit.intOf]; omega
    · obtain rfl : k = 8 := by omega
      have b1 : ¬ (0 : Int) ≤ 7 - ((8 : Nat) : Int) := by omega
      have hcv := run_convert_bytes_back (P := Tryz.prog) wr 138 9 5 ⟨w.heap.size, 0, none⟩ 8 (hex8 n) Tryz.underlying138 Tryz.underlying5 Tryz.underlying9 (fun j hj => by
        have hj8 : j < 8 := by unfold hex8 at hj; rw [hexL_length] at hj; exact hj
        have := hy.dig (7 - j) (by omega)
        rw [show 7 - (7 - j) = j by omega] at this
        rw [Lib.add_plain, Nat.zero_add, this]
        simp [hex8, hexL])
      rw [show (hex8 n).length = 8 from hexL_length n 8] at hcv
      clear hdv hxn hv hnv hx0
      go_wp2
      go_ret
      exact ⟨rfl, hb⟩
theorem RIDText_any (p : Nat) (l : Int) (hp : p < 4294967296) (h0 : -9223372036854775808 ≤ l) (h1 : l ≤ 9223372036854775807) (w : World) :
    Calls Tryz.prog 86 #[.agg #[.int .u32 (p : Int), .int .i64 l]] w fun e w' => e = .returned (.string (bs (idText p l))) ∧ Below w.heap.size w w' := by
  by_cases hl : l < 0
  · have HQ : Hid (idText p l = []) := Lib.hid (by unfold idText; rw [if_pos hl])
    have hb := (Below.refl w.heap.size w).alloc (Nat.le_refl _) (.cells #[.int .u32 (p : Int), .int .i64 l] 47)
    go_enter Tryz.func86, Tryz.ntmps86
    go_wp2
    go_ret
    exact ⟨by rw [HQ.out]; rfl, hb⟩
  · have HQ : Hid (idText p l = hex8 p ++ 45 :: itoa l) := Lib.hid (by unfold idText; rw [if_neg hl])
    have hz1 : (bs (hex8 p)).size = 8 := by rw [bs_size]; unfold hex8; rw [hexL_length]
    have hz3 : (bs (hex8 p) ++ ⟨#[45]⟩).size = 9 := by rw [ByteArray.size_append, hz1]; rfl
    have hz2 : (bs (itoa l)).size ≤ 21 := by rw [bs_size]; exact itoa_length_le l h0 h1
    have hb := (Below.refl w.heap.size w).alloc (Nat.le_refl _) (.cells #[.int .u32 (p : Int), .int .i64 l] 47)
    have c0 : (w.alloc (.cells #[.int .u32 (p : Int), .int .i64 l] 47)).cell? ⟨w.heap.size, 0, none⟩ = some (.int .u32 (p : Int)) := by rw [World.cell?_alloc_at _ _ _ _ rfl]; rfl
    have c1 : (w.alloc (.cells #[.int .u32 (p : Int), .int .i64 l] 47)).cell? ⟨w.heap.size, 1, none⟩ = some (.int .i64 l) := by rw [World.cell?_alloc_at _ _ _ _ rfl]; rfl
    have hlt : w.heap.size < (w.alloc (.cells #[.int .u32 (p : Int), .int .i64 l] 47)).heap.size := by simp
    go_enter Tryz.func86, Tryz.ntmps86
    go_wp2_with fail
    generalize w.alloc (.cells #[.int .u32 (p : Int), .int .i64 l] 47) = w1 at *
    have cc : ∀ w' : World, Below w1.heap.size w1 w' → w'.cell? ⟨w.heap.size, 0, none⟩ = some (.int .u32 (p : Int)) ∧ w'.cell? ⟨w.heap.size, 1, none⟩ = some (.int .i64 l) := fun w' h => ⟨(h.cell (p := ⟨w.heap.size, 0, none⟩) hlt).trans c0, (h.cell (p := ⟨w.heap.size, 1, none⟩) hlt).trans c1⟩
    have CC := Lib.hid cc
    clear cc c0 c1
    have hB0 : Below w1.heap.size w1 w1.drew := (Below.refl _ w1).drew
    refine region_S (fun w' => Below w1.heap.size w1 w') 7 (by kernel_rfl) (by kernel_rfl) ?_
    refine take_S 0 rfl (by kernel_rfl) rfl hB0 (fun w' hS => by go_simp; rfl) ?_
    refine take_S 1 rfl (by kernel_rfl) rfl hB0 (fun w' hS => by obtain ⟨h1, h2⟩ := CC.out w' hS; go_simp; rfl) ?_
    refine take_S 4 rfl (by kernel_rfl) rfl hB0 (fun w' hS => by go_simp; rfl) ?_
    refine take_S 5 rfl (by kernel_rfl) rfl hB0 (fun w' hS => by obtain ⟨h1, h2⟩ := CC.out w' hS; go_simp; rfl) ?_
    refine carry_S 2 rfl (by kernel_rfl) (by decide) rfl (fun K hK => ?_)
    go_simp
    refine (RHexOf_any p hp _).mono ?_
    rintro e w2 ⟨rfl, hb2⟩
    have hB2 : Below w1.heap.size w1 w2 := hB0.trans (hb2.mono hB0.size)
    refine hK _ _ hB2 ?_
    clear hK K
    try simp only [Act.put, List.setIfInBounds_toArray, List.set_cons_zero, List.set_cons_succ]
    refine take_S 3 rfl (by kernel_rfl) rfl hB2 (fun w' hS => by go_simp; rfl) ?_
    refine carry_S 6 rfl (by kernel_rfl) (by decide) (by kernel_rfl) (fun K hK => ?_)
    go_simp
    refine (RDecimal_any l h0 h1 _).mono ?_
    rintro e w3 ⟨rfl, hb3⟩
    have hB3 : Below w1.heap.size w1 w3 := hB2.trans (hb3.mono hB2.size)
    refine hK _ _ hB3 (forced_S (by kernel_rfl) ?_)
    clear hK K
    try simp only [Act.put, List.setIfInBounds_toArray, List.set_cons_zero, List.set_cons_succ]
    simp only [List.drop_succ_cons, List.drop_zero]
    go_wp2
    go_ret
    refine ⟨?_, hb.trans (hB3.mono hb.size)⟩
    rw [HQ.out, show hex8 p ++ 45 :: itoa l = (hex8 p ++ [45]) ++ itoa l by simp, ← cat_bs, ← cat_bs]
    rfl
end Go.Proofs.YtpanoplcamdnkaaGreatDoor

/- Walk of strconv.FormatUint at base 16. Condition: the one cell of math/bits.deBruijn64tab that is read holds what its initialiser lays. -/
import Derived.Test.YtbokckjlgjnnjaaGreatDoorPrP
import Derived.Laws.IdiomStrings
import Derived.Deep.RegionHeld
import Derived.Lib.ItoaMem
namespace Go.Proofs.YtbokckjlgjnnjaaGreatDoor
open Go.RowKit Go.Lib

theorem tz_and : bits BinOp.and IntKind.u64 16 (IntKind.u64.wrap (-16)) = 16 := by decide +kernel
theorem tz_mul : IntKind.u64.wrap (16 * 285870213051353865) / 288230376151711744 = 15 := by decide +kernel
set_option maxRecDepth 100000 in
theorem TZ16 (w : World) (h : w.cell? ⟨20, 15, none⟩ = some (.int .u8 4)) : Calls Tryz.prog 191 #[.int .u64 16] w fun e w' => e = .returned (.int .i64 4) ∧ w = w' := by
  have e1 := tz_and
  have e2 := tz_mul
  go_enter Tryz.func191, Tryz.ntmps191
  go_wp2
  go_ret
  exact ⟨rfl, rfl⟩
def digs : ByteArray := ⟨#[48, 49, 50, 51, 52, 53, 54, 55, 56, 57, 97, 98, 99, 100, 101, 102, 103, 104, 105, 106, 107, 108, 109, 110, 111, 112, 113, 114, 115, 116, 117, 118, 119, 120, 121, 122]⟩
theorem and15 (v : Nat) : bits .and .u64 (v : Int) 15 = ((v % 16 : Nat) : Int) := by
  show IntKind.u64.wrap ((BitVec.ofInt 64 (v : Int) &&& BitVec.ofInt 64 15).toNat : Int) = _
  have h : (BitVec.ofInt 64 (v : Int) &&& BitVec.ofInt 64 15).toNat = v % 16 := by
    rw [BitVec.toNat_and, BitVec.ofInt_natCast, BitVec.toNat_ofNat, show (BitVec.ofInt 64 15).toNat = 2 ^ 4 - 1 from rfl, Nat.and_two_pow_sub_one_eq_mod]
    omega
  rw [h]
  simp [IntKind.wrap, IntKind.bits, IntKind.signed]
  omega
theorem digs_at (d : Nat) (hd : d < 16) : ∃ h : d < digs.size, digs[d] = hexc d :=
  (show ∀ e : Fin 16, ∃ h : e.1 < digs.size, digs[e.1] = hexc e.1 by decide +kernel) ⟨d, hd⟩
theorem idx_digs (z : Int) (d : Nat) (hz : z = (d : Int)) (hd : d < 16) (w : World) :
    (Instr.index 9 (.string ⟨#[48, 49, 50, 51, 52, 53, 54, 55, 56, 57, 97, 98, 99, 100, 101, 102, 103, 104, 105, 106, 107, 108, 109, 110, 111, 112, 113, 114, 115, 116, 117, 118, 119, 120, 121, 122]⟩) (.int .u64 z)).run Tryz.prog w = .ok (.int .u8 ((hexc d).toNat : Int)) w := by
  subst hz
  obtain ⟨h1, h2⟩ := digs_at d hd
  have e : ((d : Int)).toNat = d := by omega
  rw [show (⟨#[48, 49, 50, 51, 52, 53, 54, 55, 56, 57, 97, 98, 99, 100, 101, 102, 103, 104, 105, 106, 107, 108, 109, 110, 111, 112, 113, 114, 115, 116, 117, 118, 119, 120, 121, 122]⟩ : ByteArray) = digs from rfl, run_index_string w 9 digs .u64 _ Tryz.underlying9, dif_pos ⟨by omega, by omega⟩]
  simp only [e]
  rw [h2]

/-- the row of 65 bytes: k digits stand at its end -/
structure Hx (b n k : Nat) (w : World) : Prop where
  isb : ∀ j, j < 65 → ∃ c, w.cell? ⟨b, j, none⟩ = some (.int .u8 c)
  nof : ∀ j, j < 65 → w.frozen? ⟨b, j, none⟩ = false
  dig : ∀ j, j < k → w.cell? ⟨b, 64 - j, none⟩ = some (.int .u8 ((hexAt n j).toNat : Int))
theorem Hx.start (n : Nat) (w : World) (b : Nat) (hb : b = w.heap.size) : Hx b n 0 (w.alloc (.cells (Array.replicate 65 (.int .u8 0)) 252)) where
  isb j hj := ⟨0, by rw [World.cell?_alloc_at _ _ _ _ hb, Array.getElem?_replicate, if_pos hj]⟩
  nof j hj := by subst hb; exact World.frozen?_alloc_new _ _ _ _
  dig j hj := absurd hj (Nat.not_lt_zero _)
theorem Hx.step {b n k : Nat} {w : World} (h : Hx b n k w) (hk : k < 65) : Hx b n (k + 1) (w.setCell ⟨b, 64 - k, none⟩ (.int .u8 ((hexAt n k).toNat : Int))) where
  isb j hj := by
    by_cases he : j = 64 - k
    · subst he
      obtain ⟨c, hc⟩ := h.isb (64 - k) (by omega)
      exact ⟨_, World.cell?_setCell_same _ _ _ hc⟩
    · obtain ⟨c, hc⟩ := h.isb j hj
      exact ⟨c, by rw [World.cell?_setCell_other _ _ _ _ (by intro e; injection e; omega)]; exact hc⟩
  nof j hj := by rw [World.frozen?_setCell]; exact h.nof j hj
  dig j hj := by
    by_cases he : j = k
    · subst he
      obtain ⟨c, hc⟩ := h.isb (64 - j) (by omega)
      exact World.cell?_setCell_same _ _ _ hc
    · rw [World.cell?_setCell_other _ _ _ _ (by intro e; injection e; omega)]; exact h.dig j (by omega)

set_option maxRecDepth 100000 in
set_option maxHeartbeats 4000000 in
theorem formatBits_any (n : Nat) (hn : n < 4294967296) (w : World) (h : w.cell? ⟨20, 15, none⟩ = some (.int .u8 4)) :
    Calls Tryz.prog 163 #[.slice none 0 0, .int .u64 (n : Int), .int .i64 16, .bool false, .bool false] w fun e w' =>
      ∃ L, 1 ≤ L ∧ L ≤ 8 ∧ n < 16 ^ L ∧ e = .returned (.tuple #[.slice none 0 0, .string (bs (hexL n L))]) ∧ Below w.heap.size w w' := by
  have hz : ∀ o, (w.alloc o).cell? ⟨20, 15, none⟩ = some (.int .u8 4) := fun o => by
    rw [World.cell?_alloc_some _ _ _ (by rw [h]; rfl)]; exact h
  go_enter Tryz.func163, Tryz.ntmps163
  go_wp2_with (first | (go_at_call 191; refine (TZ16 _ (hz _)).mono ?_; rintro e w1 ⟨rfl, rfl⟩) | go_in)
  go_loopw [1, 13] (fun vu vi wr => ∃ k : Nat, k ≤ 7 ∧ vu = .int .u64 (n / 16 ^ k : Nat) ∧ vi = .int .i64 (65 - (k : Int)) ∧ Hx w.heap.size n k wr ∧ Below w.heap.size w wr) (fun vu _ _ => (RowKit.intOf vu).toNat)
  case atStart => exact ⟨0, by omega, by simp, rfl, by rw [show Tryz.zeroCells252 = Array.replicate 65 (.int .u8 0) from rfl]; exact Hx.start n w _ rfl, (Below.refl _ w).alloc (Nat.le_refl _) _⟩
  case round =>
    obtain ⟨k, hk, rfl, rfl, hx, hb⟩ := hrel
    have hv : n / 16 ^ k < 4294967296 := Nat.lt_of_le_of_lt (Nat.div_le_self _ _) hn
    have hd : hexAt n k = hexc (n / 16 ^ k % 16) := rfl
    have hnx : n / 16 ^ (k + 1) = n / 16 ^ k / 16 := by rw [Nat.pow_succ, Nat.div_div_eq_div_mul]
    by_cases hge : 16 ≤ n / 16 ^ k
    · have hst := hx.step (k := k) (by omega)
      rw [hd] at hst
      generalize n / 16 ^ k = v at *
      have HST := Lib.hid hst
      obtain ⟨c, hc⟩ := hx.isb (65 - k - 1) (by omega)
      have hf := hx.nof (65 - k - 1) (by omega)
      have hidx := idx_digs (bits .and .u64 (v : Int) 15) (v % 16) (and15 v) (Nat.mod_lt _ (by decide))
      have b1 : (16 : Int) ≤ (v : Int) := by omega
      clear hst hd hge
      go_wp2
      have hk7 : k ≤ 6 := by
        rcases Nat.lt_or_ge k 7 with h7 | h7
        · omega
        · obtain rfl : k = 7 := by omega
          rw [Nat.div_eq_of_lt (show n < 16 ^ (7 + 1) by omega)] at hnx
          omega
      go_round
      case rel =>
        refine ⟨k + 1, by omega, by rw [hnx]; rfl, by go_num, ?_, ?_⟩
        · rw [show 65 - k - 1 = 64 - k by omega]; exact HST.out
        · exact hb.setCell (Nat.le_refl _) _
      case measure => simp [RowKit.intOf]; omega
    · have hlt : n < 16 ^ (k + 1) := by
        rw [Nat.pow_succ]
        have hp : 0 < 16 ^ k := Nat.pow_pos (by decide)
        have := (Nat.div_lt_iff_lt_mul hp).1 (show n / 16 ^ k < 16 by omega)
        rw [Nat.mul_comm]; exact this
      have hst := hx.step (k := k) (by omega)
      rw [hd, Nat.mod_eq_of_lt (show n / 16 ^ k < 16 by omega)] at hst
      generalize n / 16 ^ k = v at *
      have HST := Lib.hid hst
      obtain ⟨c, hc⟩ := hx.isb (65 - k - 1) (by omega)
      have hf := hx.nof (65 - k - 1) (by omega)
      have hidx := idx_digs (v : Int) v rfl (by omega)
      have b1 : ¬ (16 : Int) ≤ (v : Int) := by omega
      have hsl : ∀ W, (Instr.sliceAt 252 (.pointer (some ⟨w.heap.size, 0, none⟩)) (some (.int .i64 (65 - (k : Int) - 1))) none none).run Tryz.prog W = .ok (.slice (some ⟨w.heap.size, 65 - k - 1, none⟩) (hexL n (k + 1)).length (hexL n (k + 1)).length) W := fun W => by
        rw [run_sliceAt_array_l W 252 ⟨w.heap.size, 0, none⟩ (by simp [Program.arrayLen, Program.elem, Tryz.underlying252]) .i64 (65 - (k : Int) - 1) (by omega) (by rw [show Tryz.prog.arrayLen 252 = 65 from rfl]; omega)]
        rw [show Tryz.prog.arrayLen 252 = 65 from rfl, show Tryz.prog.elem 252 = 5 from rfl, hexL_length]
        go_simp
        omega
      have hcv := run_convert_bytes_back (P := Tryz.prog) (wr.setCell ⟨w.heap.size, 65 - k - 1, none⟩ (.int .u8 ((hexc v).toNat : Int))) 139 9 5 ⟨w.heap.size, 65 - k - 1, none⟩ (hexL n (k + 1)).length (hexL n (k + 1)) Tryz.underlying139 Tryz.underlying5 Tryz.underlying9 (fun j hj => by
        rw [hexL_length] at hj
        have := HST.out.dig (k - j) (by omega)
        rw [show 64 - (k - j) = 65 - k - 1 + j by omega, show 64 - k = 65 - k - 1 by omega] at this
        rw [Lib.add_plain, this]
        simp [hexL])
      clear hst hd hge
      go_wp2
      have hb' := hb.setCell (p := ⟨w.heap.size, 65 - k - 1, none⟩) (Nat.le_refl _) (.int .u8 ((hexc v).toNat : Int))
      go_ret2
      exact ⟨k + 1, by omega, by omega, hlt, rfl, hb'⟩
theorem FormatUint_any (n : Nat) (hn : n < 4294967296) (w : World) (h : w.cell? ⟨20, 15, none⟩ = some (.int .u8 4)) :
    Calls Tryz.prog 94 #[.int .u64 (n : Int), .int .i64 16] w fun e w' => ∃ L, 1 ≤ L ∧ L ≤ 8 ∧ n < 16 ^ L ∧ e = .returned (.string (bs (hexL n L))) ∧ Below w.heap.size w w' := by
  go_enter Tryz.func94, Tryz.ntmps94
  go_wp2_with (first | (go_at_call 126; go_in) | fail)
  refine (formatBits_any n hn _ h).mono ?_
  rintro e w1 ⟨L, h1, h2, h3, rfl, hb⟩
  go_wp2
  go_ret
  exact ⟨L, h1, h2, h3, rfl, hb⟩
end Go.Proofs.YtbokckjlgjnnjaaGreatDoor

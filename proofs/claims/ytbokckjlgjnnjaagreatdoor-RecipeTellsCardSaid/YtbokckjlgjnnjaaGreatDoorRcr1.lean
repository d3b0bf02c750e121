/- RefP, RefQ, RefN, App, RefC, RefU, RefI in one text. Conditions: as each part says. -/
import Derived.Test.YtbokckjlgjnnjaaGreatDoorPrF
import Derived.Test.YtbokckjlgjnnjaaGreatDoorPrT
import Derived.Lib.ItoaLen
import Derived.Test.YtbokckjlgjnnjaaGreatDoorPrR
import Derived.Lib.SlBytesConst
import Derived.Test.YtbokckjlgjnnjaaGreatDoorPlainH
import Derived.Test.YtbokckjlgjnnjaaGreatDoorRead
import Derived.Maps.AppendAt
import Derived.Laws.OwnMore
import Derived.Deep.RegionLaw
import Derived.Test.YtbokckjlgjnnjaaGreatDoorSame
import Derived.Test.YtbokckjlgjnnjaaGreatDoorBox2
/- Walks of the reference's Byte, below, Decimal, HexOf, IDText. No conditions but bounds. -/
namespace Go.Proofs.YtbokckjlgjnnjaaGreatDoor
open Go.RowKit Go.Lib

theorem Byte_any (x : Int) (c : UInt8) (hx : x = (c.toNat : Int)) (w : World) :
    Calls Tryz.prog 132 #[.int .i64 x] w fun e w' => e = .returned (.string (bs [c])) ∧ Below w.heap.size w w' := by
  have hc : (convert 139 9 (.slice (some ⟨w.heap.size, 0, none⟩) 1 1)).run Tryz.prog (w.alloc (.cells #[.int .u8 x] 5)) = .ok (.string (bs [c])) (w.alloc (.cells #[.int .u8 x] 5)) :=
    run_convert_bytes_back (P := Tryz.prog) (w.alloc (.cells #[.int .u8 x] 5)) 139 9 5 ⟨w.heap.size, 0, none⟩ 1 [c] Tryz.underlying139 Tryz.underlying5 Tryz.underlying9 (fun j hj => by
      have : j = 0 := by simpa using hj
      subst this
      rw [Lib.add_plain, World.cell?_alloc_at _ _ _ _ rfl, hx]
      rfl)
  have hb := (Below.refl w.heap.size w).alloc (Nat.le_refl _) (.cells #[.int .u8 x] 5)
  have hct := c.toNat_lt
  have h1 : 0 ≤ x := by omega
  have h2 : x < 256 := by omega
  clear hx hct
  go_enter Tryz.func132, Tryz.ntmps132
  go_wp2
  go_ret
  exact ⟨rfl, hb⟩
theorem digit_nat (d : Nat) (h : d < 10) : (UInt8.ofNat (48 + d)).toNat = 48 + d := UInt8.toNat_ofNat_of_lt' (show 48 + d < 256 by omega)
theorem dec_small (u : Nat) (h : u < 10) : decDigits u = [UInt8.ofNat (48 + u)] := by rw [decDigits, dif_pos h]
theorem dec_big (u : Nat) (h : ¬ u < 10) : decDigits u = decDigits (u / 10) ++ [UInt8.ofNat (48 + u % 10)] := by rw [decDigits, dif_neg h]
theorem tdiv10 (z : Int) (u : Nat) (h : z = -(u : Int)) : z.tdiv 10 = -((u / 10 : Nat) : Int) := by
  rw [h, Int.neg_tdiv, Int.tdiv_eq_ediv_of_nonneg (by omega)]; omega
theorem tmod10 (z : Int) (u : Nat) (h : z = -(u : Int)) : z.tmod 10 = -((u % 10 : Nat) : Int) := by
  rw [h, Int.neg_tmod, Int.tmod_eq_emod_of_nonneg (by omega)]; omega
theorem decDigits_le21 (u : Nat) (h : u < 18446744073709551616) : (decDigits u).length ≤ 21 := by
  rw [decDigits_length]; exact Nat.le_trans (nDigits_le20 u h) (by decide)
set_option maxHeartbeats 1000000 in
theorem below_any (u : Nat) : ∀ (z : Int) (hz : z = -(u : Int)) (hb : u ≤ 9223372036854775808) (w : World),
    Calls Tryz.prog 99 #[.int .i64 z] w fun e w' => e = .returned (.string (bs (decDigits u))) ∧ Below w.heap.size w w' := by
  induction u using Nat.strongRecOn with
  | _ u ih =>
    intro z hz hb w
    have z0 : z ≤ 0 := by omega
    have z1 : -9223372036854775808 ≤ z := by omega
    have HZ := Lib.hid hz
    have HB := Lib.hid hb
    by_cases hu : u < 10
    · have z2 : (-10 : Int) < z := by omega
      have hd := dec_small u hu
      have hdn := digit_nat u hu
      generalize UInt8.ofNat (48 + u) = c at hd hdn
      have HD := Lib.hid hd
      have HX : Hid (48 - z = (c.toNat : Int)) := Lib.hid (by omega)
      clear hz hb hu ih hd hdn
      go_enter Tryz.func99, Tryz.ntmps99
      go_wp2_with fail
      refine (Byte_any _ c HX.out _).mono ?_
      rintro e w1 ⟨rfl, hb1⟩
      go_wp2
      go_ret
      exact ⟨by rw [HD.out]; rfl, hb1⟩
    · have z2 : z ≤ -10 := by omega
      have hd := dec_big u hu
      have hdn := digit_nat (u % 10) (by omega)
      generalize UInt8.ofNat (48 + u % 10) = c at hd hdn
      have HD := Lib.hid hd
      have HI := Lib.hid (ih (u / 10) (by omega) (z.tdiv 10) (tdiv10 z u hz) (by omega))
      have hm := tmod10 z u hz
      have hm0 : z.tmod 10 ≤ 0 := by omega
      have hm1 : -10 < z.tmod 10 := by omega
      have HX : Hid (48 - z.tmod 10 = (c.toNat : Int)) := Lib.hid (by omega)
      have hl1 : (bs (decDigits (u / 10))).size ≤ 21 := by rw [bs_size]; exact decDigits_le21 _ (by omega)
      clear hz hb hu ih hm hd hdn
      go_enter Tryz.func99, Tryz.ntmps99
      go_wp2_with fail
      refine (HI.out _).mono ?_
      rintro e w1 ⟨rfl, hb1⟩
      generalize decDigits (u / 10) = D at *
      go_wp2_with fail
      refine (Byte_any _ c HX.out _).mono ?_
      rintro e w2 ⟨rfl, hb2⟩
      have hb3 := hb1.trans (hb2.mono hb1.size)
      clear hb1 hb2
      have hl2 : (bs [c]).size ≤ 1 := by rw [bs_size]; exact Nat.le_refl _
      go_wp2
      go_ret
      exact ⟨by rw [HD.out, ← cat_bs]; rfl, hb3⟩
theorem RDecimal_any (n : Int) (h0 : -9223372036854775808 ≤ n) (h1 : n ≤ 9223372036854775807) (w : World) :
    Calls Tryz.prog 67 #[.int .i64 n] w fun e w' => e = .returned (.string (bs (itoa n))) ∧ Below w.heap.size w w' := by
  by_cases hn : n < 0
  · have HQ : Hid (itoa n = 45 :: decDigits n.natAbs) := Lib.hid (by unfold itoa; rw [if_pos hn])
    have HB := Lib.hid (below_any n.natAbs n (by omega) (by omega))
    have hl1 : (bs (decDigits n.natAbs)).size ≤ 21 := by rw [bs_size]; exact decDigits_le21 _ (by omega)
    generalize decDigits n.natAbs = D at *
    go_enter Tryz.func67, Tryz.ntmps67
    go_wp2_with fail
    refine (HB.out _).mono ?_
    rintro e w1 ⟨rfl, hb1⟩
    go_wp2
    go_ret
    exact ⟨by rw [HQ.out, show 45 :: D = [45] ++ D from rfl, ← cat_bs]; rfl, hb1⟩
  · have HQ : Hid (itoa n = decDigits n.toNat) := Lib.hid (by unfold itoa; rw [if_neg hn])
    have HB := Lib.hid (below_any n.toNat (-n) (by omega) (by omega))
    generalize decDigits n.toNat = D at *
    go_enter Tryz.func67, Tryz.ntmps67
    go_wp2_with fail
    refine (HB.out _).mono ?_
    rintro e w1 ⟨rfl, hb1⟩
    go_wp2
    go_ret
    exact ⟨by rw [HQ.out]; rfl, hb1⟩
end Go.Proofs.YtbokckjlgjnnjaaGreatDoor
/- Walks of the reference's HexOf, IDText. No conditions but bounds. -/
namespace Go.Proofs.YtbokckjlgjnnjaaGreatDoor
open Go.RowKit Go.Lib

def digs16 : ByteArray := ⟨#[48, 49, 50, 51, 52, 53, 54, 55, 56, 57, 97, 98, 99, 100, 101, 102]⟩
theorem digs16_at (d : Nat) (hd : d < 16) : ∃ h : d < digs16.size, digs16[d] = hexc d :=
  (show ∀ e : Fin 16, ∃ h : e.1 < digs16.size, digs16[e.1] = hexc e.1 by decide +kernel) ⟨d, hd⟩
theorem idx_digs16 (z : Int) (d : Nat) (hz : z = (d : Int)) (hd : d < 16) (w : World) :
    (Instr.index 9 (.string ⟨#[48, 49, 50, 51, 52, 53, 54, 55, 56, 57, 97, 98, 99, 100, 101, 102]⟩) (.int .i64 z)).run Tryz.prog w = .ok (.int .u8 ((hexc d).toNat : Int)) w := by
  subst hz
  obtain ⟨h1, h2⟩ := digs16_at d hd
  have e : ((d : Int)).toNat = d := by omega
  rw [show (⟨#[48, 49, 50, 51, 52, 53, 54, 55, 56, 57, 97, 98, 99, 100, 101, 102]⟩ : ByteArray) = digs16 from rfl, run_index_string w 9 digs16 .i64 _ Tryz.underlying9, dif_pos ⟨by omega, by omega⟩]
  simp only [e]
  rw [h2]
/-- the row of 8 bytes: k digits stand at its end -/
structure Hy (b n k : Nat) (w : World) : Prop where
  isb : ∀ j, j < 8 → ∃ c, w.cell? ⟨b, j, none⟩ = some (.int .u8 c)
  nof : ∀ j, j < 8 → w.frozen? ⟨b, j, none⟩ = false
  dig : ∀ j, j < k → w.cell? ⟨b, 7 - j, none⟩ = some (.int .u8 ((hexAt n j).toNat : Int))
theorem Hy.start (n : Nat) (w : World) : Hy w.heap.size n 0 (w.alloc (.cells #[.int .u8 48, .int .u8 48, .int .u8 48, .int .u8 48, .int .u8 48, .int .u8 48, .int .u8 48, .int .u8 48] 5 (8, 9))) where
  isb j hj := ⟨48, by rw [World.cell?_alloc_mark]; match j, hj with | 0, _ | 1, _ | 2, _ | 3, _ | 4, _ | 5, _ | 6, _ | 7, _ => rfl⟩
  nof j hj := by
    unfold World.frozen?
    rw [heap_alloc_new]
    simp
    omega
  dig j hj := absurd hj (Nat.not_lt_zero _)
theorem Hy.step {b n k : Nat} {w : World} (h : Hy b n k w) (hk : k < 8) : Hy b n (k + 1) (w.setCell ⟨b, 7 - k, none⟩ (.int .u8 ((hexAt n k).toNat : Int))) where
  isb j hj := by
    by_cases he : j = 7 - k
    · subst he
      obtain ⟨c, hc⟩ := h.isb (7 - k) (by omega)
      exact ⟨_, World.cell?_setCell_same _ _ _ hc⟩
    · obtain ⟨c, hc⟩ := h.isb j hj
      exact ⟨c, by rw [World.cell?_setCell_other _ _ _ _ (by intro e; injection e; omega)]; exact hc⟩
  nof j hj := by rw [World.frozen?_setCell]; exact h.nof j hj
  dig j hj := by
    by_cases he : j = k
    · subst he
      obtain ⟨c, hc⟩ := h.isb (7 - j) (by omega)
      exact World.cell?_setCell_same _ _ _ hc
    · rw [World.cell?_setCell_other _ _ _ _ (by intro e; injection e; omega)]; exact h.dig j (by omega)
set_option maxRecDepth 100000 in
set_option maxHeartbeats 1000000 in
theorem RHexOf_any (n : Nat) (hn : n < 4294967296) (w : World) :
    Calls Tryz.prog 68 #[.int .u32 (n : Int)] w fun e w' => e = .returned (.string (bs (hex8 n))) ∧ Below w.heap.size w w' := by
  have kc := fun (w : World) (C : Array Value) (n c : Nat) => Lib.run_convert_bytes_const (P := Tryz.prog) w 139 5 C n c Tryz.underlying139 Tryz.underlying5
  have hst := Hy.start n w
  have hb0 := (Below.refl w.heap.size w).alloc (Nat.le_refl _) (.cells #[.int .u8 48, .int .u8 48, .int .u8 48, .int .u8 48, .int .u8 48, .int .u8 48, .int .u8 48, .int .u8 48] 5 (8, 9))
  go_enter Tryz.func68, Tryz.ntmps68
  go_wp2
  generalize w.alloc (.cells #[.int .u8 48, .int .u8 48, .int .u8 48, .int .u8 48, .int .u8 48, .int .u8 48, .int .u8 48, .int .u8 48] 5 (8, 9)) = w0 at *
  have HS0 := Lib.hid hst
  clear kc hst
  go_loopw [3, 5] (fun vx vi wr => ∃ (k : Nat) (x : Int), k ≤ 8 ∧ vx = .int .i64 x ∧ Hid (x = ((n / 16 ^ k : Nat) : Int)) ∧ vi = .int .i64 (7 - (k : Int)) ∧ Hy w.heap.size n k wr ∧ Below w.heap.size w wr) (fun _ vi _ => (RowKit.intOf vi + 1).toNat)
  case atStart => exact ⟨0, n, by omega, rfl, Lib.hid (by simp), rfl, HS0.out, hb0⟩
  case round =>
    obtain ⟨k, x, hk, rfl, hx0, rfl, hy, hb⟩ := hrel
    have hxn := hx0.out
    have hv : n / 16 ^ k < 4294967296 := Nat.lt_of_le_of_lt (Nat.div_le_self _ _) hn
    have hdv : hexAt n k = hexc (n / 16 ^ k % 16) := rfl
    have hnv : n / 16 ^ (k + 1) = n / 16 ^ k / 16 := by rw [Nat.pow_succ, Nat.div_div_eq_div_mul]
    generalize n / 16 ^ k = v at *
    have x0 : 0 ≤ x := by omega
    have x1 : x < 4294967296 := by omega
    by_cases hlt : k < 8
    · have hst1 := hy.step hlt
      have hd := hdv
      rw [hd] at hst1
      have hnx : Hid (x / 16 = ((n / 16 ^ (k + 1) : Nat) : Int)) := Lib.hid (by rw [hnv]; omega)
      have hidx := idx_digs16 (x % 16) (v % 16) (by omega) (Nat.mod_lt _ (by decide))
      have hidx2 := idx_digs16 (x.tmod 16) (v % 16) (by rw [Int.tmod_eq_emod_of_nonneg x0]; omega) (Nat.mod_lt _ (by decide))
      obtain ⟨c, hc⟩ := hy.isb (7 - k) (by omega)
      have hf := hy.nof (7 - k) (by omega)
      have hoff : ((7 : Int) - (k : Int)).toNat = 7 - k := by omega
      have b1 : (0 : Int) ≤ 7 - (k : Int) := by omega
      have b2 : (7 : Int) - (k : Int) < 8 := by omega
      have HST := Lib.hid hst1
      generalize hexc (v % 16) = cc at *
      have HX := Lib.hid hxn
      clear hst1 hd hdv hxn hv hnv
      go_wp2
      go_roundw
      case rel =>
        refine ⟨k + 1, x / 16, hlt, rfl, hnx, by go_num, ?_, ?_⟩
        · exact HST.out
        · exact hb.setCell (Nat.le_refl _) _
      case measure => simp [RowKit.intOf]; omega
    · obtain rfl : k = 8 := by omega
      have b1 : ¬ (0 : Int) ≤ 7 - ((8 : Nat) : Int) := by omega
      have hcv := run_convert_bytes_back (P := Tryz.prog) wr 139 9 5 ⟨w.heap.size, 0, none⟩ 8 (hex8 n) Tryz.underlying139 Tryz.underlying5 Tryz.underlying9 (fun j hj => by
        have hj8 : j < 8 := by unfold hex8 at hj; rw [hexL_length] at hj; exact hj
        have := hy.dig (7 - j) (by omega)
        rw [show 7 - (7 - j) = j by omega] at this
        rw [Lib.add_plain, Nat.zero_add, this]
        simp [hex8, hexL])
      rw [show (hex8 n).length = 8 from hexL_length n 8] at hcv
      clear hdv hxn hv hnv hx0
      go_wp2
      go_ret
      exact ⟨rfl, hb⟩
theorem RIDText_any (p : Nat) (l : Int) (hp : p < 4294967296) (h0 : -9223372036854775808 ≤ l) (h1 : l ≤ 9223372036854775807) (w : World) :
    Calls Tryz.prog 69 #[.agg #[.int .u32 (p : Int), .int .i64 l]] w fun e w' => e = .returned (.string (bs (idText p l))) ∧ Below w.heap.size w w' := by
  by_cases hl : l < 0
  · have HQ : Hid (idText p l = []) := Lib.hid (by unfold idText; rw [if_pos hl])
    have hb := (Below.refl w.heap.size w).alloc (Nat.le_refl _) (.cells #[.int .u32 (p : Int), .int .i64 l] 71)
    go_enter Tryz.func69, Tryz.ntmps69
    go_wp2
    go_ret
    exact ⟨by rw [HQ.out]; rfl, hb⟩
  · have HQ : Hid (idText p l = hex8 p ++ 45 :: itoa l) := Lib.hid (by unfold idText; rw [if_neg hl])
    have hz1 : (bs (hex8 p)).size = 8 := by rw [bs_size]; unfold hex8; rw [hexL_length]
    have hz3 : (bs (hex8 p) ++ ⟨#[45]⟩).size = 9 := by rw [ByteArray.size_append, hz1]; rfl
    have hz2 : (bs (itoa l)).size ≤ 21 := by rw [bs_size]; exact itoa_length_le l h0 h1
    have hb := (Below.refl w.heap.size w).alloc (Nat.le_refl _) (.cells #[.int .u32 (p : Int), .int .i64 l] 71)
    have c0 : (w.alloc (.cells #[.int .u32 (p : Int), .int .i64 l] 71)).cell? ⟨w.heap.size, 0, none⟩ = some (.int .u32 (p : Int)) := by rw [World.cell?_alloc_at _ _ _ _ rfl]; rfl
    have c1 : (w.alloc (.cells #[.int .u32 (p : Int), .int .i64 l] 71)).cell? ⟨w.heap.size, 1, none⟩ = some (.int .i64 l) := by rw [World.cell?_alloc_at _ _ _ _ rfl]; rfl
    have hlt : w.heap.size < (w.alloc (.cells #[.int .u32 (p : Int), .int .i64 l] 71)).heap.size := by simp
    go_enter Tryz.func69, Tryz.ntmps69
    go_wp2_with fail
    generalize w.alloc (.cells #[.int .u32 (p : Int), .int .i64 l] 71) = w1 at *
    have cc : ∀ w' : World, Below w1.heap.size w1 w' → w'.cell? ⟨w.heap.size, 0, none⟩ = some (.int .u32 (p : Int)) ∧ w'.cell? ⟨w.heap.size, 1, none⟩ = some (.int .i64 l) := fun w' h => ⟨(h.cell (p := ⟨w.heap.size, 0, none⟩) hlt).trans c0, (h.cell (p := ⟨w.heap.size, 1, none⟩) hlt).trans c1⟩
    have CC := Lib.hid cc
    clear cc c0 c1
    have hB0 : Below w1.heap.size w1 w1.drew := (Below.refl _ w1).drew
    refine region_S (fun w' => Below w1.heap.size w1 w') 7 (by kernel_rfl) (by kernel_rfl) ?_
    refine take_S 0 rfl (by kernel_rfl) rfl hB0 (fun w' hS => by go_simp; rfl) ?_
    refine take_S 1 rfl (by kernel_rfl) rfl hB0 (fun w' hS => by obtain ⟨h1, h2⟩ := CC.out w' hS; go_simp; rfl) ?_
    refine take_S 4 rfl (by kernel_rfl) rfl hB0 (fun w' hS => by go_simp; rfl) ?_
    refine take_S 5 rfl (by kernel_rfl) rfl hB0 (fun w' hS => by obtain ⟨h1, h2⟩ := CC.out w' hS; go_simp; rfl) ?_
    refine carry_S 2 rfl (by kernel_rfl) (by decide) rfl (fun K hK => ?_)
    go_simp
    refine (RHexOf_any p hp _).mono ?_
    rintro e w2 ⟨rfl, hb2⟩
    have hB2 : Below w1.heap.size w1 w2 := hB0.trans (hb2.mono hB0.size)
    refine hK _ _ hB2 ?_
    clear hK K
    try simp only [Act.put, List.setIfInBounds_toArray, List.set_cons_zero, List.set_cons_succ]
    refine take_S 3 rfl (by kernel_rfl) rfl hB2 (fun w' hS => by go_simp; rfl) ?_
    refine carry_S 6 rfl (by kernel_rfl) (by decide) (by kernel_rfl) (fun K hK => ?_)
    go_simp
    refine (RDecimal_any l h0 h1 _).mono ?_
    rintro e w3 ⟨rfl, hb3⟩
    have hB3 : Below w1.heap.size w1 w3 := hB2.trans (hb3.mono hB2.size)
    refine hK _ _ hB3 (forced_S (by kernel_rfl) ?_)
    clear hK K
    try simp only [Act.put, List.setIfInBounds_toArray, List.set_cons_zero, List.set_cons_succ]
    simp only [List.drop_succ_cons, List.drop_zero]
    go_wp2
    go_ret
    refine ⟨?_, hb.trans (hB3.mono hb.size)⟩
    rw [HQ.out, show hex8 p ++ 45 :: itoa l = (hex8 p ++ [45]) ++ itoa l by simp, ← cat_bs, ← cat_bs]
    rfl
end Go.Proofs.YtbokckjlgjnnjaaGreatDoor
/- Walk of the reference's NumberOf. No conditions but bounds. -/
namespace Go.Proofs.YtbokckjlgjnnjaaGreatDoor
open Go.RowKit Go.Lib

def numZ (l : Bytes) (m : Nat) : Int := match numR l m with
  | some k => (k : Int)
  | none => -1
theorem numZ_bad {l : Bytes} {m : Nat} (h : l.length < 1 ∨ m < l.length ∨ (1 < l.length ∧ l.headD 0 = 48)) : numZ l m = -1 := by unfold numZ numR; rw [if_pos h]
theorem numZ_dec {l : Bytes} {m : Nat} (h : ¬ (l.length < 1 ∨ m < l.length ∨ (1 < l.length ∧ l.headD 0 = 48))) : numZ l m = match decFrom 0 l with | some k => (k : Int) | none => -1 := by unfold numZ numR; rw [if_neg h]
theorem headD_of (t : ByteArray) (h : 0 < t.size) : t.data.toList.headD 0 = t[0] := by
  have hl : 0 < t.data.toList.length := by rw [← size_toList]; exact h
  cases hq : t.data.toList with
  | nil => rw [hq] at hl; simp at hl
  | cons c r =>
    have : t.data.toList[0] = c := by simp [hq]
    show c = t[0]
    rw [← this]; rfl
theorem drop_of (t : ByteArray) (k : Nat) (h : k < t.size) : t.data.toList.drop k = t[k] :: t.data.toList.drop (k + 1) := by
  have hl : k < t.data.toList.length := by rw [← size_toList]; exact h
  rw [List.drop_eq_getElem_cons hl]; rfl
theorem decFrom_yes {acc : Nat} {c : UInt8} {r : Bytes} (h0 : 48 ≤ c.toNat) (h1 : c.toNat ≤ 57) : decFrom acc (c :: r) = decFrom (acc * 10 + (c.toNat - 48)) r := by
  show (match digitVal c with | some d => decFrom (acc * 10 + d) r | none => none) = _
  unfold digitVal; rw [if_pos ⟨h0, h1⟩]
theorem decFrom_no {acc : Nat} {c : UInt8} {r : Bytes} (h : ¬ (48 ≤ c.toNat ∧ c.toNat ≤ 57)) : decFrom acc (c :: r) = none := by
  show (match digitVal c with | some d => decFrom (acc * 10 + d) r | none => none) = _
  unfold digitVal; rw [if_neg h]
set_option maxRecDepth 100000 in
set_option maxHeartbeats 1000000 in
theorem RNumberOf_any (t : ByteArray) (m : Nat) (hm : m ≤ 17) (w : World) :
    Calls Tryz.prog 78 #[.string t, .int .i64 (m : Int)] w fun e w' => e = .returned (.int .i64 (numZ t.data.toList m)) ∧ w = w' := by
  have hsz := size_toList t
  by_cases h1 : t.size < 1
  · have HJ := Lib.hid (numZ_bad (m := m) (l := t.data.toList) (.inl (by omega)))
    have h1i : (t.size : Int) < 1 := by omega
    clear hsz
    go_enter Tryz.func78, Tryz.ntmps78
    go_wp2
    go_ret
    exact ⟨by rw [HJ.out]; rfl, rfl⟩
  · have h1i : ¬ (t.size : Int) < 1 := by omega
    by_cases h2 : m < t.size
    · have HJ := Lib.hid (numZ_bad (m := m) (l := t.data.toList) (.inr (.inl (by omega))))
      have h2i : (m : Int) < (t.size : Int) := by omega
      clear hsz
      go_enter Tryz.func78, Tryz.ntmps78
      go_wp2
      go_ret
      exact ⟨by rw [HJ.out]; rfl, rfl⟩
    · have h2i : ¬ (m : Int) < (t.size : Int) := by omega
      have hh := headD_of t (by omega)
      have h0 : 0 < t.size := by omega
      by_cases h3 : 1 < t.size
      · have h3i : (1 : Int) < (t.size : Int) := by omega
        by_cases h4 : t[0] = 48
        · have HJ := Lib.hid (numZ_bad (m := m) (l := t.data.toList) (.inr (.inr ⟨by omega, by rw [hh, h4]⟩)))
          have h4i : ((t[0].toNat : Int) == 48) = true := by rw [h4]; rfl
          clear hsz hh
          go_enter Tryz.func78, Tryz.ntmps78
          go_wp2
          go_ret
          exact ⟨by rw [HJ.out]; rfl, rfl⟩
        · have HJ := Lib.hid (numZ_dec (m := m) (l := t.data.toList) (by rintro (h | h | ⟨_, h⟩); · omega
                                                                         · omega
                                                                         · rw [hh] at h; exact h4 h))
          have h4n : ¬ t[0].toNat = 48 := fun e => h4 (UInt8.toNat_inj.1 e)
          have h4i : ((t[0].toNat : Int) == 48) = false := by rw [beq_eq_false_iff_ne]; omega
          have HB := Lib.hid (show t.size ≤ 17 by omega)
          clear hsz hh
          go_enter Tryz.func78, Tryz.ntmps78
          go_wp2
          go_loop [5, 6] (fun vn vi => ∃ (k acc : Nat), vn = .int .i64 acc ∧ vi = .int .i64 k ∧ k ≤ t.size ∧ Hid (acc < 10 ^ k ∧ decFrom 0 t.data.toList = decFrom acc (t.data.toList.drop k))) (fun _ vi => t.size - (RowKit.intOf vi).toNat)
          case atStart => exact ⟨0, 0, rfl, rfl, by omega, Lib.hid ⟨by decide, rfl⟩⟩
          case round =>
            obtain ⟨k, acc, rfl, rfl, hk, hh0⟩ := hrel
            by_cases hkn : k < t.size
            · have hki : (k : Int) < (t.size : Int) := by omega
              have hki0 : (0 : Int) ≤ (k : Int) := by omega
              have hd := drop_of t k hkn
              have hacc : acc < 100000000000000000 := Nat.lt_of_lt_of_le hh0.out.1 (Nat.le_trans (Nat.pow_le_pow_right (by decide) (show k ≤ 17 from by have := HB.out; omega)) (by decide))
              have hc256 := t[k].toNat_lt
              by_cases hdig : 48 ≤ t[k].toNat ∧ t[k].toNat ≤ 57
              · obtain ⟨hd0, hd1⟩ := hdig
                have hi0 : ¬ (t[k].toNat : Int) < 48 := by omega
                have hi1 : ¬ (57 : Int) < (t[k].toNat : Int) := by omega
                have HD : Hid (acc * 10 + (t[k].toNat - 48) < 10 ^ (k + 1) ∧ decFrom 0 t.data.toList = decFrom (acc * 10 + (t[k].toNat - 48)) (t.data.toList.drop (k + 1))) := Lib.hid ⟨by have := hh0.out.1; rw [Nat.pow_succ]; omega, by rw [hh0.out.2, hd, decFrom_yes hd0 hd1]⟩
                clear hd hh0
                go_wp2
                go_round
                case rel => exact ⟨k + 1, acc * 10 + (t[k].toNat - 48), by go_num, by go_num, hkn, HD⟩
                case measure => simp [RowKit.intOf]; omega
              · have HE := Lib.hid (hh0.out.2.trans (by rw [hd, decFrom_no hdig]))
                clear hd hh0
                by_cases hi0 : t[k].toNat < 48
                · have hi0' : (t[k].toNat : Int) < 48 := by omega
                  go_wp2
                  go_ret
                  exact ⟨by rw [HJ.out, HE.out]; rfl, rfl⟩
                · have hi0' : ¬ (t[k].toNat : Int) < 48 := by omega
                  have hi1' : (57 : Int) < (t[k].toNat : Int) := by omega
                  go_wp2
                  go_ret
                  exact ⟨by rw [HJ.out, HE.out]; rfl, rfl⟩
            · obtain rfl : k = t.size := by omega
              have hn : decFrom 0 t.data.toList = some acc := by rw [hh0.out.2, List.drop_eq_nil_of_le (by rw [← size_toList]; exact Nat.le_refl _)]; rfl
              have HN := Lib.hid hn
              clear hn hh0
              go_wp2
              go_ret
              exact ⟨by rw [HJ.out, HN.out]; rfl, rfl⟩
      · have HJ := Lib.hid (numZ_dec (m := m) (l := t.data.toList) (by rintro (h | h | ⟨h, _⟩) <;> omega))
        have h3i : ¬ (1 : Int) < (t.size : Int) := by omega
        have HB := Lib.hid (show t.size ≤ 17 by omega)
        clear hsz hh
        go_enter Tryz.func78, Tryz.ntmps78
        go_wp2
        go_loop [5, 6] (fun vn vi => ∃ (k acc : Nat), vn = .int .i64 acc ∧ vi = .int .i64 k ∧ k ≤ t.size ∧ Hid (acc < 10 ^ k ∧ decFrom 0 t.data.toList = decFrom acc (t.data.toList.drop k))) (fun _ vi => t.size - (RowKit.intOf vi).toNat)
        case atStart => exact ⟨0, 0, rfl, rfl, by omega, Lib.hid ⟨by decide, rfl⟩⟩
        case round =>
          obtain ⟨k, acc, rfl, rfl, hk, hh0⟩ := hrel
          by_cases hkn : k < t.size
          · have hki : (k : Int) < (t.size : Int) := by omega
            have hki0 : (0 : Int) ≤ (k : Int) := by omega
            have hd := drop_of t k hkn
            have hacc : acc < 100000000000000000 := Nat.lt_of_lt_of_le hh0.out.1 (Nat.le_trans (Nat.pow_le_pow_right (by decide) (show k ≤ 17 from by have := HB.out; omega)) (by decide))
            have hc256 := t[k].toNat_lt
            by_cases hdig : 48 ≤ t[k].toNat ∧ t[k].toNat ≤ 57
            · obtain ⟨hd0, hd1⟩ := hdig
              have hi0 : ¬ (t[k].toNat : Int) < 48 := by omega
              have hi1 : ¬ (57 : Int) < (t[k].toNat : Int) := by omega
              have HD : Hid (acc * 10 + (t[k].toNat - 48) < 10 ^ (k + 1) ∧ decFrom 0 t.data.toList = decFrom (acc * 10 + (t[k].toNat - 48)) (t.data.toList.drop (k + 1))) := Lib.hid ⟨by have := hh0.out.1; rw [Nat.pow_succ]; omega, by rw [hh0.out.2, hd, decFrom_yes hd0 hd1]⟩
              clear hd hh0
              go_wp2
              go_round
              case rel => exact ⟨k + 1, acc * 10 + (t[k].toNat - 48), by go_num, by go_num, hkn, HD⟩
              case measure => simp [RowKit.intOf]; omega
            · have HE := Lib.hid (hh0.out.2.trans (by rw [hd, decFrom_no hdig]))
              clear hd hh0
              by_cases hi0 : t[k].toNat < 48
              · have hi0' : (t[k].toNat : Int) < 48 := by omega
                go_wp2
                go_ret
                exact ⟨by rw [HJ.out, HE.out]; rfl, rfl⟩
              · have hi0' : ¬ (t[k].toNat : Int) < 48 := by omega
                have hi1' : (57 : Int) < (t[k].toNat : Int) := by omega
                go_wp2
                go_ret
                exact ⟨by rw [HJ.out, HE.out]; rfl, rfl⟩
          · obtain rfl : k = t.size := by omega
            have hn : decFrom 0 t.data.toList = some acc := by rw [hh0.out.2, List.drop_eq_nil_of_le (by rw [← size_toList]; exact Nat.le_refl _)]; rfl
            have HN := Lib.hid hn
            clear hn hh0
            go_wp2
            go_ret
            exact ⟨by rw [HJ.out, HN.out]; rfl, rfl⟩
end Go.Proofs.YtbokckjlgjnnjaaGreatDoor
/- append of a slice that is read onto a row of the call's own. No conditions but bounds. -/
namespace Go.Proofs.YtbokckjlgjnnjaaGreatDoor
open Go.RowKit Go.Lib

theorem add_eq' (g o j : Nat) : (⟨g, o, none⟩ : Addr).add j = ⟨g, o + j, none⟩ := by unfold Addr.add; split <;> simp_all
section
variable {P : Program}
theorem run_append_rd (w : World) (base : Nat) (t ty e : TypeId) (i : TypeInfo) (z : Value) (bytes : Nat) (ht : P.underlying t = some (.slice e)) (hi : P.info? e = some i) (hz : i.zero = some z)
    (hsize : i.size = 1) (hby : i.bytes = bytes) (hzs : z.cells.size = 1) (v : Value) (n : Nat) (xs : List Value) (hown : w.ownsRow base e 1 v n xs)
    (B : Nat) (x : Value) (ns : List Value) (hx : Rd w B x ns) (h1 : ∀ u ∈ ns, u.oneCell' = true) (h63 : n + ns.length ≤ maxLen) (hbytes : (n + ns.length) * bytes ≤ 140737488355328) (hbase : base ≤ w.heap.size) :
    ∃ v' w', (Builtin.append_ #[t, t] ty #[v, x]).run P w = .ok v' w' ∧ w'.ownsRow base e 1 v' (n + ns.length) (xs ++ ns) ∧ w.grownBy w' v.ownBlock := by
  obtain ⟨A, c, rfl, hlc, hc⟩ := hx
  by_cases h0 : ns = []
  · subst h0
    have hr : (Builtin.append_ #[t, t] ty #[v, .slice A 0 c]).run P w = .ok v w := by
      rcases hown.2 with ⟨rfl, rfl⟩ | ⟨g, cap, cur, rfl, _, _, hnc, _⟩
      · cases A <;> simp [Builtin.append_, run_underlying ht, sizeOf, typeInfo, hi, Builtin.lenOf, Builtin.firstCells, loadCells, loadCellsFrom]
      · cases A <;> simp [Builtin.append_, run_underlying ht, sizeOf, typeInfo, hi, Builtin.lenOf, Builtin.firstCells, hnc, storeCells, loadCells, loadCellsFrom]
    refine ⟨v, w, hr, by rw [List.append_nil]; exact hown, ⟨rfl, rfl, rfl, Nat.le_refl _, fun _ _ _ => rfl⟩⟩
  · obtain ⟨g, o, rfl, hg, hc⟩ := hc h0
    obtain ⟨v', w', hr, h2, h3, _, _⟩ := run_append_own_at (P := P) w base t ty e i z 1 bytes ht hi hz hsize hby hzs (by decide) v n xs hown ⟨g, o, none⟩ ns.length c ns (by omega) (fun j u hu => by rw [add_eq']; exact hc j u hu) h1 h63 hbytes hbase
    exact ⟨v', w', hr, h2, h3⟩
theorem wpList_append_rd {w : World} {ops : Array Oper} {rest : List Oper} {o : Oper} {a : Act} {Q : Exit → Act → World → Prop} (hgd : o.guard = none) (s x : Operand) (t : TypeId)
    (ho : o.op = .call { callee := .builtin .append, args := #[s, x], argTypes := #[t, t] })
    (base : Nat) (e : TypeId) (i : TypeInfo) (z : Value) (bytes : Nat) (ht : P.underlying t = some (.slice e)) (hi : P.info? e = some i) (hz : i.zero = some z)
    (hsize : i.size = 1) (hby : i.bytes = bytes) (hzs : z.cells.size = 1)
    (v : Value) (n : Nat) (xs : List Value) (hs : a.eval s = v) (hown : w.ownsRow base e 1 v n xs)
    (B : Nat) (vx : Value) (ns : List Value) (hx : a.eval x = vx) (hr : Rd w B vx ns) (h1 : ∀ u ∈ ns, u.oneCell' = true) (h63 : n + ns.length ≤ maxLen) (hbytes : (n + ns.length) * bytes ≤ 140737488355328) (hbase : base ≤ w.heap.size)
    (h : ∀ v' w', w'.ownsRow base e 1 v' (n + ns.length) (xs ++ ns) → w.grownBy w' v.ownBlock → wpList P ops Q rest (a.put o.dst v') w') :
    wpList P ops Q (o :: rest) a w := by
  refine wpList_plain hgd fun K hK => ?_
  obtain ⟨v', w', hr, h2, h3⟩ := run_append_rd (P := P) w base t o.type e i z bytes ht hi hz hsize hby hzs v n xs hown B vx ns hr h1 h63 hbytes hbase
  unfold Oper.wp execOp
  simp only [ho, resolve, invoke, builtin, Sem.run_bind, Sem.run_pure, Result.andThen_ok, List.map_toArray, List.map_cons, List.map_nil, hs, hx, hr]
  exact hK _ _ (h v' w' h2 h3)
theorem wp_append_rd {w : World} {o : Oper} {a : Act} {K : Act → World → Prop} {Q : Exit → Act → World → Prop} (s x : Operand) (t : TypeId)
    (ho : o.op = .call { callee := .builtin .append, args := #[s, x], argTypes := #[t, t] })
    (base : Nat) (e : TypeId) (i : TypeInfo) (z : Value) (bytes : Nat) (ht : P.underlying t = some (.slice e)) (hi : P.info? e = some i) (hz : i.zero = some z)
    (hsize : i.size = 1) (hby : i.bytes = bytes) (hzs : z.cells.size = 1)
    (v : Value) (n : Nat) (xs : List Value) (hs : a.eval s = v) (hown : w.ownsRow base e 1 v n xs)
    (B : Nat) (vx : Value) (ns : List Value) (hx : a.eval x = vx) (hr : Rd w B vx ns) (h1 : ∀ u ∈ ns, u.oneCell' = true) (h63 : n + ns.length ≤ maxLen) (hbytes : (n + ns.length) * bytes ≤ 140737488355328) (hbase : base ≤ w.heap.size)
    (h : ∀ v' w', w'.ownsRow base e 1 v' (n + ns.length) (xs ++ ns) → w.grownBy w' v.ownBlock → K (a.put o.dst v') w') : o.wp P a w K Q := by
  obtain ⟨v', w', hr, h2, h3⟩ := run_append_rd (P := P) w base t o.type e i z bytes ht hi hz hsize hby hzs v n xs hown B vx ns hr h1 h63 hbytes hbase
  unfold Oper.wp execOp
  simp only [ho, resolve, invoke, builtin, Sem.run_bind, Sem.run_pure, Result.andThen_ok, List.map_toArray, List.map_cons, List.map_nil, hs, hx, hr]
  exact h v' w' h2 h3
/-- at a step of a region that draws its order -/
theorem step_append_rd {w : World} {ops : Array Oper} {o : Oper} {a : Act} {K : Act → World → Prop} {Q : Exit → Act → World → Prop} {E : Prop} (hgd : o.guard = none) (s x : Operand) (t : TypeId)
    (ho : o.op = .call { callee := .builtin .append, args := #[s, x], argTypes := #[t, t] })
    (base : Nat) (e : TypeId) (i : TypeInfo) (z : Value) (bytes : Nat) (ht : P.underlying t = some (.slice e)) (hi : P.info? e = some i) (hz : i.zero = some z)
    (hsize : i.size = 1) (hby : i.bytes = bytes) (hzs : z.cells.size = 1)
    (v : Value) (n : Nat) (xs : List Value) (hs : a.eval s = v) (hown : w.ownsRow base e 1 v n xs)
    (B : Nat) (vx : Value) (ns : List Value) (hx : a.eval x = vx) (hr : Rd w B vx ns) (h1 : ∀ u ∈ ns, u.oneCell' = true) (h63 : n + ns.length ≤ maxLen) (hbytes : (n + ns.length) * bytes ≤ 140737488355328) (hbase : base ≤ w.heap.size)
    (h : ∀ v' w', w'.ownsRow base e 1 v' (n + ns.length) (xs ++ ns) → w.grownBy w' v.ownBlock → K (a.put o.dst v') w') :
    if Region.wanted o (yielded ops a.tmps) = true then Oper.wp P o a w K Q else E := by
  have hw : Region.wanted o (yielded ops a.tmps) = true := by simp [Region.wanted, hgd]
  rw [if_pos hw]
  exact wp_append_rd s x t ho base e i z bytes ht hi hz hsize hby hzs v n xs hs hown B vx ns hx hr h1 h63 hbytes hbase h
end
/-- 's[k:]' as the walk writes it, whatever the place -/
theorem Rd.cutA {w : World} {B : Nat} {A : Option Addr} {n c : Nat} {xs : List Value} (h : Rd w B (.slice A n c) xs) (k : Nat) (hk : k ≤ n) :
    Rd w B (.slice (if c = k then A else A.map (fun x => x.add k)) (n - k) (c - k)) (xs.drop k) := by
  obtain ⟨A', c', hv, hnc, hx⟩ := h
  injection hv with h1 h2 h3
  subst h1; subst h2; subst h3
  refine ⟨_, _, by rw [List.length_drop], by rw [List.length_drop]; omega, fun hn => ?_⟩
  have hlt : k < xs.length := by
    rcases Nat.lt_or_ge k xs.length with h | h
    · exact h
    · exact absurd (List.drop_eq_nil_of_le h) hn
  rw [if_neg (by omega)]
  obtain ⟨g, o, rfl, hg, hc⟩ := hx (by intro h0; subst h0; simp at hlt)
  refine ⟨g, o + k, by rw [Option.map_some, add_eq'], hg, fun j u hu => ?_⟩
  rw [List.getElem?_drop] at hu
  rw [Nat.add_assoc]
  exact hc _ u hu
/-- a row of the call's own is read behind stores into an elder block -/
theorem Rd.own_set {w : World} {base n b : Nat} {e : TypeId} {v : Value} {xs : List Value} (h : w.ownsRow base e 1 v n xs) (hb : b < base) (x y : Value) :
    Rd ((w.setCell ⟨b, 0, none⟩ x).setCell ⟨b, 1, none⟩ y) ((w.setCell ⟨b, 0, none⟩ x).setCell ⟨b, 1, none⟩ y).heap.size v xs := by
  have hs : ((w.setCell ⟨b, 0, none⟩ x).setCell ⟨b, 1, none⟩ y).heap.size = w.heap.size := by simp
  rw [hs]
  obtain ⟨A, c, hv, hlc, hc⟩ := Rd.own h
  refine ⟨A, c, hv, hlc, fun hn => ?_⟩
  obtain ⟨g, o, hA, hg, hc⟩ := hc hn
  refine ⟨g, o, hA, hg, fun k u hu => ?_⟩
  have hge : base ≤ g := own_ge h (by rw [hv, hA]; rfl)
  rw [World.cell?_setCell_other _ _ _ _ (by intro e; injection e with e1 e2; omega), World.cell?_setCell_other _ _ _ _ (by intro e; injection e with e1 e2; omega)]
  exact hc k u hu
theorem below_grown {base n size : Nat} {e : TypeId} {w0 w w' : World} {v : Value} {xs : List Value} (hB : Below base w0 w) (hb : base ≤ w.heap.size) (h : w.ownsRow base e size v n xs) (hg : w.grownBy w' v.ownBlock) : Below base w0 w' :=
  hB.grown hg hb (fun b he => own_ge h he)
end Go.Proofs.YtbokckjlgjnnjaaGreatDoor
/- Walk of the reference's Cut. No conditions but bounds. -/
namespace Go.Proofs.YtbokckjlgjnnjaaGreatDoor
open Go.RowKit Go.Lib

theorem info_string' : (Tryz.prog.info? 9).map (fun i => (i.zero, i.size, i.bytes)) = some (some (.string ByteArray.empty), 1, 16) := by kernel_rfl
/-- what is cut so far, and what is left -/
def CutSt (b : UInt8) (L : Bytes) (done : List Bytes) (f k : Nat) : Prop := cutAll b L = done ++ cutAux b ((L.take k).drop f) (L.drop k)
theorem CutSt.start (b : UInt8) (L : Bytes) : CutSt b L [] 0 0 := rfl
theorem CutSt.hit {b : UInt8} {L : Bytes} {done : List Bytes} {f k : Nat} (h : CutSt b L done f k) (hk : k < L.length) (e : L[k] = b) : CutSt b L (done ++ [(L.take k).drop f]) (k + 1) (k + 1) := by
  unfold CutSt at h ⊢
  rw [h, List.drop_eq_getElem_cons hk, cutAux, if_pos e, List.append_assoc, drop_take_self]; rfl
theorem CutSt.miss {b : UInt8} {L : Bytes} {done : List Bytes} {f k : Nat} (h : CutSt b L done f k) (hf : f ≤ k) (hk : k < L.length) (e : L[k] ≠ b) : CutSt b L done f (k + 1) := by
  unfold CutSt at h ⊢
  rw [h, List.drop_eq_getElem_cons hk, cutAux, if_neg e, cur_succ L f k hf hk]
theorem CutSt.done {b : UInt8} {L : Bytes} {done : List Bytes} {f : Nat} (h : CutSt b L done f L.length) : cutAll b L = done ++ [L.drop f] := by
  unfold CutSt at h
  rw [h, List.take_of_length_le (Nat.le_refl _), List.drop_eq_nil_of_le (Nat.le_refl _), cutAux]
theorem CutSt.len {b : UInt8} {L : Bytes} {done : List Bytes} {f k : Nat} (h : CutSt b L done f k) : done.length ≤ L.length := by
  have := cutAux_length b L []
  have hne := cutAux_ne b (L.drop k) ((L.take k).drop f)
  unfold CutSt cutAll at h
  rw [h, List.length_append] at this
  have : 0 < (cutAux b ((L.take k).drop f) (L.drop k)).length := List.length_pos_iff.2 hne
  omega
theorem vt_snoc {w : World} {base : Nat} {v : Value} {L : List Bytes} {s : ByteArray} {x : Bytes} (h : w.ownsRow base 9 1 v (L.length + 1) (L.map VT ++ [.string s])) (e : s = bs x) : w.ownsRow base 9 1 v (L ++ [x]).length ((L ++ [x]).map VT) := by
  subst e
  rw [List.length_append, List.map_append]; exact h
set_option maxRecDepth 100000 in
set_option maxHeartbeats 1000000 in
theorem RCut_any (t : ByteArray) (b : UInt8) (ht : t.size ≤ 2 ^ 40) (w : World) :
    Calls Tryz.prog 77 #[.string t, .int .u8 (b.toNat : Int)] w fun e w' => ∃ v, e = .returned v ∧ w'.ownsRow w.heap.size 9 1 v (cutAll b t.data.toList).length ((cutAll b t.data.toList).map VT) ∧ Below w.heap.size w w' := by
  obtain ⟨i0, hi, hz0, hz1, hz2⟩ := info_parts info_string'
  have HZ := Lib.hid (size_toList t)
  have hb256 := b.toNat_lt
  go_enter Tryz.func77, Tryz.ntmps77
  go_wp2
  go_loopg [5, 6, 7] t.size (fun gh vs vf vi wr => ∃ (k f : Nat) (L : List Bytes), vi = .int .i64 k ∧ vf = .int .i64 f ∧ f ≤ k ∧ k ≤ t.size ∧ gh = t.size - k ∧ Hid (CutSt b t.data.toList L f k) ∧ L.length ≤ t.size ∧ wr.ownsRow w.heap.size 9 1 vs L.length (L.map VT) ∧ Below w.heap.size w wr)
  case atStart => exact ⟨0, 0, [], rfl, rfl, Nat.le_refl _, Nat.zero_le _, rfl, Lib.hid (CutSt.start _ _), by simp, World.ownsRow_nil _ _ _ _, Below.refl _ _⟩
  case round =>
    obtain ⟨k, f, L, rfl, rfl, hfk, hk, hgm, hst, hLk, hrow, hB⟩ := hrel
    by_cases hkl : k < t.size
    · have hkl' : k < t.data.toList.length := by rw [← HZ.out]; exact hkl
      have b1 : (0 : Int) ≤ (k : Int) := by omega
      have b2 : (k : Int) < (t.size : Int) := by omega
      have b3 : (f : Int) ≤ (k : Int) := by omega
      have b4 : (0 : Int) ≤ (f : Int) := by omega
      have hc256 := t[k].toNat_lt
      by_cases he : t[k] = b
      · have HN := Lib.hid (hst.out.hit hkl' he)
        have hln : (L ++ [(t.data.toList.take k).drop f]).length ≤ t.size := by rw [HZ.out]; exact HN.out.len
        have hei : ((t[k].toNat : Int) == (b.toNat : Int)) = true := by rw [he]; simp
        have HX := Lib.hid (extract_bs t f k)
        clear he
        go_wp2_with (at_builtin; refine wpList_append_own _ rfl _ _ 40 rfl w.heap.size 9 i0 (.string ByteArray.empty) 1 16 Tryz.underlying40 hi hz0 hz1 hz2 rfl (by decide) _ _ _ rfl (hrow.alloc _) ⟨wr.heap.size, 0, none⟩ 1 1 [.string (t.extract f k)] rfl rfl (cell_one_new _ _ _) (by simp [Value.oneCell']) (by unfold maxLen; omega) (by omega) (by have := hB.size; simp; omega) ?_; intro v5 w5 ho5 hg5 _)
        go_roundg (t.size - (k + 1))
        case measure => omega
        case rel => exact ⟨k + 1, k + 1, _, by go_num, by go_num, Nat.le_refl _, hkl, rfl, HN, hln, vt_snoc ho5 HX.out, below_append hB hB.size hrow hg5⟩
      · have HN := Lib.hid (hst.out.miss hfk hkl' he)
        have hen : ¬ t[k].toNat = b.toNat := fun e => he (UInt8.toNat_inj.1 e)
        have hei : ((t[k].toNat : Int) == (b.toNat : Int)) = false := by rw [beq_eq_false_iff_ne]; omega
        clear he hen
        go_wp2
        go_roundg (t.size - (k + 1))
        case measure => omega
        case rel => exact ⟨k + 1, f, L, by go_num, rfl, by omega, hkl, rfl, HN, hLk, hrow, hB⟩
    · obtain rfl : k = t.size := by omega
      have hd := hst.out
      rw [HZ.out] at hd
      have hdone := hd.done
      have hx : t.extract f t.size = bs (t.data.toList.drop f) := by
        rw [extract_bs, HZ.out, List.take_of_length_le (Nat.le_refl _)]
      have HX := Lib.hid hx
      have HDN := Lib.hid hdone
      have b3 : (f : Int) ≤ (t.size : Int) := by omega
      have b4 : (0 : Int) ≤ (f : Int) := by omega
      clear hd hdone hx hst
      go_wp2_with (at_builtin; refine wpList_append_own _ rfl _ _ 40 rfl w.heap.size 9 i0 (.string ByteArray.empty) 1 16 Tryz.underlying40 hi hz0 hz1 hz2 rfl (by decide) _ _ _ rfl (hrow.alloc _) ⟨wr.heap.size, 0, none⟩ 1 1 [.string (t.extract f t.size)] rfl rfl (cell_one_new _ _ _) (by simp [Value.oneCell']) (by unfold maxLen; omega) (by omega) (by have := hB.size; simp; omega) ?_; intro v5 w5 ho5 hg5 _)
      go_ret
      refine ⟨_, rfl, ?_, below_append hB hB.size hrow hg5⟩
      rw [HDN.out]
      exact vt_snoc ho5 HX.out
end Go.Proofs.YtbokckjlgjnnjaaGreatDoor
/- Walk of the reference's Unhex. No conditions. -/
namespace Go.Proofs.YtbokckjlgjnnjaaGreatDoor
open Go.RowKit Go.Lib

/-- the number and whether it is one -/
def hexRes (o : Option Nat) : Value := match o with
  | some n => .tuple #[.int .u32 (n : Int), .bool true]
  | none => .tuple #[.int .u32 0, .bool false]
theorem unhexAux_yes {acc d : Nat} {c : UInt8} {r : Bytes} (h : lowHex c = some d) : unhexAux acc (c :: r) = unhexAux (16 * acc + d) r := by
  show (match lowHex c with | some d => unhexAux (16 * acc + d) r | none => none) = _
  rw [h]
theorem unhexAux_no {acc : Nat} {c : UInt8} {r : Bytes} (h : lowHex c = none) : unhexAux acc (c :: r) = none := by
  show (match lowHex c with | some d => unhexAux (16 * acc + d) r | none => none) = _
  rw [h]
set_option maxRecDepth 100000 in
set_option maxHeartbeats 1000000 in
theorem RUnhex_any (t : ByteArray) (ht : t.size ≤ 2 ^ 40) (w : World) :
    Calls Tryz.prog 79 #[.string t] w fun e w' => e = .returned (hexRes (unhexOf t.data.toList)) ∧ w = w' := by
  rw [← unhexR_eq]
  have hsz := size_toList t
  by_cases h8 : t.size = 8
  · have HJ : Hid (unhexR t.data.toList = unhexAux 0 t.data.toList) := Lib.hid (by unfold unhexR; rw [if_pos (by omega)])
    have h8i : ((t.size : Int) == 8) = true := by rw [beq_iff_eq]; omega
    have HZ := Lib.hid h8
    clear hsz
    go_enter Tryz.func79, Tryz.ntmps79
    go_wp2
    go_loop [4, 5] (fun vn vi => ∃ (k acc : Nat), vn = .int .i64 acc ∧ vi = .int .i64 k ∧ k ≤ 8 ∧ Hid (acc < 16 ^ k ∧ unhexAux 0 t.data.toList = unhexAux acc (t.data.toList.drop k))) (fun _ vi => 8 - (RowKit.intOf vi).toNat)
    case atStart => exact ⟨0, 0, rfl, rfl, by omega, Lib.hid ⟨by decide, rfl⟩⟩
    case round =>
      obtain ⟨k, acc, rfl, rfl, hk, hh0⟩ := hrel
      by_cases hkn : k < 8
      · have hkt : k < t.size := by omega
        have hki : (k : Int) < (t.size : Int) := by omega
        have hki0 : (0 : Int) ≤ (k : Int) := by omega
        have hd := drop_of t k hkt
        have hacc : acc < 268435456 := Nat.lt_of_lt_of_le hh0.out.1 (Nat.le_trans (Nat.pow_le_pow_right (by decide) (show k ≤ 7 from by omega)) (by decide))
        have hc256 := t[k].toNat_lt
        by_cases hdig : 48 ≤ t[k].toNat ∧ t[k].toNat ≤ 57
        · obtain ⟨hd0, hd1⟩ := hdig
          have hi0 : (48 : Int) ≤ (t[k].toNat : Int) := by omega
          have hi1 : (t[k].toNat : Int) ≤ 57 := by omega
          have hi2 : ¬ (97 : Int) ≤ (t[k].toNat : Int) := by omega
          have hl : lowHex t[k] = some (t[k].toNat - 48) := by unfold lowHex; rw [if_pos ⟨hd0, hd1⟩]
          have HD : Hid (16 * acc + (t[k].toNat - 48) < 16 ^ (k + 1) ∧ unhexAux 0 t.data.toList = unhexAux (16 * acc + (t[k].toNat - 48)) (t.data.toList.drop (k + 1))) := Lib.hid ⟨by have := hh0.out.1; rw [Nat.pow_succ]; omega, by rw [hh0.out.2, hd, unhexAux_yes hl]⟩
          clear hd hh0 hl
          go_wp2
          go_round
          case rel => exact ⟨k + 1, 16 * acc + (t[k].toNat - 48), by go_num, by go_num, hkn, HD⟩
          case measure => simp [RowKit.intOf]; omega
        · by_cases hlet : 97 ≤ t[k].toNat ∧ t[k].toNat ≤ 102
          · obtain ⟨hd0, hd1⟩ := hlet
            have hi0 : (48 : Int) ≤ (t[k].toNat : Int) := by omega
            have hi1 : ¬ (t[k].toNat : Int) ≤ 57 := by omega
            have hi2 : (97 : Int) ≤ (t[k].toNat : Int) := by omega
            have hi3 : (t[k].toNat : Int) ≤ 102 := by omega
            have hl : lowHex t[k] = some (t[k].toNat - 87) := by unfold lowHex; rw [if_neg hdig, if_pos ⟨hd0, hd1⟩]
            have HD : Hid (16 * acc + (t[k].toNat - 87) < 16 ^ (k + 1) ∧ unhexAux 0 t.data.toList = unhexAux (16 * acc + (t[k].toNat - 87)) (t.data.toList.drop (k + 1))) := Lib.hid ⟨by have := hh0.out.1; rw [Nat.pow_succ]; omega, by rw [hh0.out.2, hd, unhexAux_yes hl]⟩
            clear hd hh0 hl hdig
            go_wp2
            go_round
            case rel => exact ⟨k + 1, 16 * acc + (t[k].toNat - 87), by go_num, by go_num, hkn, HD⟩
            case measure => simp [RowKit.intOf]; omega
          · have hl : lowHex t[k] = none := by unfold lowHex; rw [if_neg hdig, if_neg hlet]
            have HE := Lib.hid (hh0.out.2.trans (by rw [hd, unhexAux_no hl]))
            have g1 : t[k].toNat < 48 ∨ (57 < t[k].toNat ∧ t[k].toNat < 97) ∨ 102 < t[k].toNat := by omega
            clear hd hh0 hl hdig hlet
            rcases g1 with g | ⟨g, g'⟩ | g
            · have hi0 : ¬ (48 : Int) ≤ (t[k].toNat : Int) := by omega
              have hi2 : ¬ (97 : Int) ≤ (t[k].toNat : Int) := by omega
              go_wp2
              go_ret2
              exact ⟨by rw [HJ.out, HE.out]; rfl, rfl⟩
            · have hi0 : (48 : Int) ≤ (t[k].toNat : Int) := by omega
              have hi1 : ¬ (t[k].toNat : Int) ≤ 57 := by omega
              have hi2 : ¬ (97 : Int) ≤ (t[k].toNat : Int) := by omega
              go_wp2
              go_ret2
              exact ⟨by rw [HJ.out, HE.out]; rfl, rfl⟩
            · have hi0 : (48 : Int) ≤ (t[k].toNat : Int) := by omega
              have hi1 : ¬ (t[k].toNat : Int) ≤ 57 := by omega
              have hi2 : (97 : Int) ≤ (t[k].toNat : Int) := by omega
              have hi3 : ¬ (t[k].toNat : Int) ≤ 102 := by omega
              go_wp2
              go_ret2
              exact ⟨by rw [HJ.out, HE.out]; rfl, rfl⟩
      · obtain rfl : k = 8 := by omega
        have hacc : acc < 4294967296 := by have := hh0.out.1; omega
        have hn : unhexAux 0 t.data.toList = some acc := by rw [hh0.out.2, List.drop_eq_nil_of_le (by rw [← size_toList]; omega)]; rfl
        have HN := Lib.hid hn
        clear hn hh0
        go_wp2
        go_ret2
        exact ⟨by rw [HJ.out, HN.out]; rfl, rfl⟩
  · have HJ : Hid (unhexR t.data.toList = none) := Lib.hid (by unfold unhexR; rw [if_neg (by omega)])
    have h8i : ((t.size : Int) == 8) = false := by rw [beq_eq_false_iff_ne]; omega
    clear hsz h8
    go_enter Tryz.func79, Tryz.ntmps79
    go_wp2
    go_ret2
    exact ⟨by rw [HJ.out]; rfl, rfl⟩
end Go.Proofs.YtbokckjlgjnnjaaGreatDoor
/- Walk of the reference's ReadID. No conditions but bounds. -/
namespace Go.Proofs.YtbokckjlgjnnjaaGreatDoor
open Go.RowKit Go.Lib

/-- what the document says of a text that is read -/
def idRes (o : Option (Nat × Nat)) : Value := match o with
  | some (n, k) => .tuple #[.agg #[.int .u32 (n : Int), .int .i64 (k : Int)], .int .i64 0]
  | none => .tuple #[.agg #[.int .u32 0, .int .i64 0], .int .i64 1]
theorem readR_long {l : Bytes} (h : (cutAll 45 l).length ≠ 2) : readR l = none := by
  unfold readR
  split
  · next a b e => rw [e] at h; exact absurd rfl h
  · rfl
theorem readR_two {l a b : Bytes} (h : cutAll 45 l = [a, b]) : readR l = match unhexOf a, numR b 6 with
    | some n, some k => some (n, k)
    | _, _ => none := by
  unfold readR; rw [h]; simp only [unhexR_eq]
  cases unhexOf a <;> cases numR b 6 <;> rfl
set_option maxRecDepth 100000 in
set_option maxHeartbeats 1000000 in
theorem RReadID_any (t : ByteArray) (ht : t.size ≤ 2 ^ 30) (w : World) :
    Calls Tryz.prog 80 #[.string t] w fun e w' => e = .returned (idRes (readId t.data.toList)) ∧ Below w.heap.size w w' := by
  rw [← readR_eq]
  have hb0 : Below w.heap.size w (w.alloc (.cells #[.int .u32 0, .int .i64 0] 71)) := (Below.refl _ w).alloc (Nat.le_refl _) _
  have hbx : Box2 w.heap.size (.int .u32 0) (.int .i64 0) (w.alloc (.cells #[.int .u32 0, .int .i64 0] 71)) := Box2.mk' w _ _ _
  by_cases hl : (cutAll 45 t.data.toList).length = 2
  · obtain ⟨a, b, hab⟩ : ∃ a b, cutAll 45 t.data.toList = [a, b] := by
      match h : cutAll 45 t.data.toList, hl with
      | [a, b], _ => exact ⟨a, b, rfl⟩
    have hr := readR_two hab
    have HAB := Lib.hid hab
    have HU : Hid (unhexOf (bs a).data.toList = unhexOf a) := Lib.hid (by rw [bs_toList])
    have HNZ : Hid (numZ (bs b).data.toList 6 = numZ b 6) := Lib.hid (by rw [bs_toList])
    have hlen : a.length + b.length + 1 = t.size := by
      have h1 := hab
      unfold cutAll at h1
      rw [size_toList]
      cases hc : byteCut 45 t.data.toList with
      | none => rw [cutAux_none 45 _ [] ((byteCut_none 45 _).1 hc)] at h1; cases h1
      | some p =>
        obtain ⟨x, y⟩ := p
        obtain ⟨e1, e2⟩ := byteCut_some 45 _ x y hc
        rw [e1, cutAux_some 45 x y [] e2] at h1
        injection h1 with h1 h2
        have hy : (45 : UInt8) ∉ y := fun hy => by
          cases hd : byteCut 45 y with
          | none => exact (byteCut_none 45 y).1 hd hy
          | some q =>
            obtain ⟨f1, f2⟩ := byteCut_some 45 y q.1 q.2 hd
            rw [f1, cutAux_some 45 q.1 q.2 [] f2] at h2
            injection h2 with _ h2
            exact cutAux_ne 45 q.2 [] h2
        rw [cutAux_none 45 y [] hy] at h2
        injection h2 with h2 _
        rw [e1, ← h1, ← h2]; simp; omega
    have HSA : Hid ((bs a).size ≤ 2 ^ 40) := Lib.hid (by rw [bs_size]; omega)
    have HR := Lib.hid hr
    have HBX := Lib.hid hbx
    clear hl hab hr hbx hlen
    go_enter Tryz.func80, Tryz.ntmps80
    go_wp2_with fail
    generalize w.alloc (.cells #[.int .u32 0, .int .i64 0] 71) = w0 at *
    refine (RCut_any t 45 (by omega) w0).mono ?_
    rintro e w1 ⟨v1, rfl, ho1, hb1⟩
    rw [HAB.out] at ho1
    obtain ⟨A1, c1, rfl, hn1, _⟩ := own_form ho1
    obtain ⟨A2, c2, hv2, _, hx⟩ := Rd.own ho1
    injection hv2 with hv2 _ _
    subst hv2
    obtain ⟨g, o, rfl, hg, hc⟩ := hx (by simp)
    have r0 : w1.cell? ⟨g, o, none⟩ = some (.string (bs a)) := hc 0 _ rfl
    have r1 : w1.cell? ⟨g, o + 1, none⟩ = some (.string (bs b)) := hc 1 _ rfl
    have hB1 := hb0.trans (hb1.mono hb0.size)
    have hbx1 := HBX.out.below hb1 HBX.out.lt
    clear hb0 ho1 hx hc hb1
    go_wp2_with fail
    refine (RUnhex_any (bs a) HSA.out w1).mono ?_
    rintro e w2 ⟨rfl, rfl⟩
    rw [HU.out]
    cases hu : unhexOf a with
    | none =>
      have HJ : Hid (readR t.data.toList = none) := Lib.hid (by rw [HR.out, hu])
      obtain ⟨t0, t1, t2⟩ := hbx1.rd (.int .u32 0) (.int .i64 0)
      have hb7 := below_set2 hB1 (b := w.heap.size) (Nat.le_refl _) (.int .u32 0) (.int .i64 0)
      obtain ⟨d0, d1, f0, f1⟩ := hbx1
      rw [show hexRes none = .tuple #[.int .u32 0, .bool false] from rfl]
      clear hB1 hu
      go_wp2_with fail
      refine (RNumberOf_any (bs b) 6 (by decide) w1).mono ?_
      rintro e w3 ⟨rfl, rfl⟩
      rw [HNZ.out]
      go_wp2
      refine bodyPost_ret (v := .tuple #[.agg #[.int .u32 0, .int .i64 0], .int .i64 1]) (by simp [results, Tryz.results80, go_sem, t0, t1, t2]) rfl ?_
      exact ⟨by rw [HJ.out]; rfl, hb7⟩
    | some n =>
      rw [show hexRes (some n) = .tuple #[.int .u32 (n : Int), .bool true] from rfl]
      go_wp2_with fail
      refine (RNumberOf_any (bs b) 6 (by decide) w1).mono ?_
      rintro e w3 ⟨rfl, rfl⟩
      rw [HNZ.out]
      cases hk : numR b 6 with
      | none =>
        have HJ : Hid (readR t.data.toList = none) := Lib.hid (by rw [HR.out, hu, hk])
        rw [show numZ b 6 = -1 by unfold numZ; rw [hk]]
        obtain ⟨t0, t1, t2⟩ := hbx1.rd (.int .u32 0) (.int .i64 0)
        have hb7 := below_set2 hB1 (b := w.heap.size) (Nat.le_refl _) (.int .u32 0) (.int .i64 0)
        obtain ⟨d0, d1, f0, f1⟩ := hbx1
        clear hB1 hu hk
        go_wp2
        refine bodyPost_ret (v := .tuple #[.agg #[.int .u32 0, .int .i64 0], .int .i64 1]) (by simp [results, Tryz.results80, go_sem, t0, t1, t2]) rfl ?_
        exact ⟨by rw [HJ.out]; rfl, hb7⟩
      | some k =>
        have HJ : Hid (readR t.data.toList = some (n, k)) := Lib.hid (by rw [HR.out, hu, hk])
        rw [show numZ b 6 = (k : Int) by unfold numZ; rw [hk]]
        have hk0 : ¬ (k : Int) < 0 := by omega
        obtain ⟨t0, t1, t2⟩ := hbx1.rd (.int .u32 (n : Int)) (.int .i64 (k : Int))
        have hb7 := below_set2 hB1 (b := w.heap.size) (Nat.le_refl _) (.int .u32 (n : Int)) (.int .i64 (k : Int))
        obtain ⟨d0, d1, f0, f1⟩ := hbx1
        clear hB1 hu hk
        go_wp2
        refine bodyPost_ret (v := .tuple #[.agg #[.int .u32 (n : Int), .int .i64 (k : Int)], .int .i64 0]) (by simp [results, Tryz.results80, go_sem, t0, t1, t2]) rfl ?_
        exact ⟨by rw [HJ.out]; rfl, hb7⟩
  · have HJ := Lib.hid (readR_long hl)
    have hli : (((cutAll 45 t.data.toList).length : Int) == 2) = false := by rw [beq_eq_false_iff_ne]; omega
    have HBX := Lib.hid hbx
    clear hl hbx
    go_enter Tryz.func80, Tryz.ntmps80
    go_wp2_with fail
    generalize w.alloc (.cells #[.int .u32 0, .int .i64 0] 71) = w0 at *
    refine (RCut_any t 45 (by omega) w0).mono ?_
    rintro e w1 ⟨v1, rfl, ho1, hb1⟩
    obtain ⟨A1, c1, rfl, hn1, _⟩ := own_form ho1
    have hB1 := hb0.trans (hb1.mono hb0.size)
    have hbx1 := HBX.out.below hb1 HBX.out.lt
    obtain ⟨t0, t1, t2⟩ := hbx1.rd (.int .u32 0) (.int .i64 0)
    have hb7 := below_set2 hB1 (b := w.heap.size) (Nat.le_refl _) (.int .u32 0) (.int .i64 0)
    obtain ⟨d0, d1, f0, f1⟩ := hbx1
    clear hb0 ho1 hb1 hB1
    go_wp2
    refine bodyPost_ret (v := .tuple #[.agg #[.int .u32 0, .int .i64 0], .int .i64 1]) (by simp [results, Tryz.results80, go_sem, t0, t1, t2]) rfl ?_
    exact ⟨by rw [HJ.out]; rfl, hb7⟩
end Go.Proofs.YtbokckjlgjnnjaaGreatDoor

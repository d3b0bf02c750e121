/- CutW, CutB in one text. Conditions: as each part says. -/

import Derived.Test.YtpanoplcamdnkaaGreatDoorChecked
import Derived.Test.YtpanoplcamdnkaaGreatDoorPlainA
import Derived.Test.YtpanoplcamdnkaaGreatDoorBse1
import Derived.Shelf.Abstract
import Derived.Shelf.RegionOpen
import Derived.Lib.LazyBuf
import Derived.Deep.RegionLaw
import Derived.Deep.Onto
/- Walks of package cut: ends, each, all, Cuts, Pieces compute the plain words of PlainA. Conditions: lengths of at most 2^40 bytes. -/
namespace Go.Proofs.YtpanoplcamdnkaaGreatDoor
open Go.RowKit Go.Lib Go.Shelf
attribute [local go_sem] Oper.semAt_some

theorem size_u8 : ∀ w, (Go.sizeOf 5).run Tryz.prog w = .ok 1 w := fun _ => by kernel_rfl
abbrev B8 (b : UInt8) : Value := .int .u8 (b.toNat : Int)
theorem run_copy8 (w : World) (t : ByteArray) (b0 b1 b2 b3 b4 b5 b6 b7 : UInt8) (ht : t.data.toList = [b0, b1, b2, b3, b4, b5, b6, b7]) :
    (Builtin.copy_ #[138, 9] 3 #[.slice (some ⟨w.heap.size, 0, none⟩) 8 8, .string t]).run Tryz.prog ((w.alloc (.cells #[.int .u8 0, .int .u8 0, .int .u8 0, .int .u8 0, .int .u8 0, .int .u8 0, .int .u8 0, .int .u8 0] 319)).drew) =
      .ok (.int .i64 8) ((w.alloc (.cells #[B8 b0, B8 b1, B8 b2, B8 b3, B8 b4, B8 b5, B8 b6, B8 b7] 319)).drew) := by
  have hz : t.size = 8 := by rw [Lib.size_eq, ht]; rfl
  rw [run_copy_string (P := Tryz.prog) _ 138 9 3 5 w.heap.size 0 8 8 t Tryz.underlying138 size_u8 (by omega) ?_ ?_]
  · rw [ht, hz]
    simp [World.setCells, go_sem, goInt, B8]
  · intro j hj
    rw [hz] at hj
    simp [go_sem]
    match j, hj with
    | 0, _ | 1, _ | 2, _ | 3, _ | 4, _ | 5, _ | 6, _ | 7, _ => simp
  · intro j hj
    simp [go_sem]
theorem eight (t : ByteArray) (h : t.size = 8) : ∃ b0 b1 b2 b3 b4 b5 b6 b7, t.data.toList = [b0, b1, b2, b3, b4, b5, b6, b7] := by
  rw [Lib.size_eq] at h
  match t.data.toList, h with
  | [b0, b1, b2, b3, b4, b5, b6, b7], _ => exact ⟨b0, b1, b2, b3, b4, b5, b6, b7, rfl⟩
theorem and15w (n : Nat) (h : n < 2048) : (bits .and .i64 (n : Int) 15 == 15) = (n % 16 == 15) := by
  have hb : (BitVec.ofInt 64 (n : Int)).toNat = n := by
    rw [BitVec.ofInt_natCast, BitVec.toNat_ofNat]; exact Nat.mod_eq_of_lt (by omega)
  have he : bits .and .i64 (n : Int) 15 = ((n % 16 : Nat) : Int) := by
    show IntKind.i64.wrap ((BitVec.ofInt 64 (n : Int) &&& BitVec.ofInt 64 15).toNat : Int) = _
    rw [BitVec.toNat_and, hb, show (BitVec.ofInt 64 15).toNat = 2 ^ 4 - 1 from rfl, Nat.and_two_pow_sub_one_eq_mod, IntKind.wrap_i64]
    omega
  rw [he, Bool.eq_iff_iff, beq_iff_eq, beq_iff_eq]
  omega

set_option maxHeartbeats 400000 in
theorem ends_big (s : ByteArray) (w : World) (hs : s.size ≤ 2 ^ 62) (h : 64 ≤ s.size) :
    Calls Tryz.prog 198 #[.string s] w fun e w' => e = .returned (.bool (endsB s.data.toList)) ∧ Below w.heap.size w w' := by
  have hfin : endsB s.data.toList = true := by unfold endsB; rw [if_pos (by rw [← size_toList]; exact h)]
  rw [hfin]
  go_enter Tryz.func198, Tryz.ntmps198
  go_wp2
  go_ret
  exact ⟨rfl, Below.refl _ _⟩
set_option maxHeartbeats 400000 in
theorem ends_small (s : ByteArray) (w : World) (h : s.size < 16) :
    Calls Tryz.prog 198 #[.string s] w fun e w' => e = .returned (.bool (endsB s.data.toList)) ∧ Below w.heap.size w w' := by
  have hfin : endsB s.data.toList = false := by unfold endsB; rw [if_neg (by rw [← size_toList]; omega), if_pos (by rw [← size_toList]; exact h)]
  rw [hfin]
  go_enter Tryz.func198, Tryz.ntmps198
  go_wp2
  go_ret
  exact ⟨rfl, Below.refl _ _⟩
set_option maxRecDepth 10000 in
set_option maxHeartbeats 1000000 in
theorem ends_mid (s : ByteArray) (w : World) (h : 16 ≤ s.size) (h2 : s.size < 64) :
    Calls Tryz.prog 198 #[.string s] w fun e w' => e = .returned (.bool (endsB s.data.toList)) ∧ Below w.heap.size w w' := by
  obtain ⟨b0, b1, b2, b3, b4, b5, b6, b7, hl⟩ := eight (s.extract (s.size - 8) s.size) (by simp; omega)
  have hc := run_copy8 w _ b0 b1 b2 b3 b4 b5 b6 b7 hl
  have hfin : endsB s.data.toList = ((b0.toNat + b1.toNat + b2.toNat + b3.toNat + b4.toNat + b5.toNat + b6.toNat + b7.toNat) % 16 == 15) := by
    unfold endsB
    rw [if_neg (by rw [← size_toList]; omega), if_neg (by rw [← size_toList]; omega)]
    have h8 : s.data.toList.drop (s.data.toList.length - 8) = [b0, b1, b2, b3, b4, b5, b6, b7] := by
      rw [← hl, extract_toList, ← size_toList, List.take_of_length_le (by rw [← size_toList]; omega)]
    unfold sum8
    rw [h8]
    simp [Nat.add_assoc]
  have j0 : (b0.toNat : Int) < 256 := by have := b0.toNat_lt; omega
  have j1 : (b1.toNat : Int) < 256 := by have := b1.toNat_lt; omega
  have j2 : (b2.toNat : Int) < 256 := by have := b2.toNat_lt; omega
  have j3 : (b3.toNat : Int) < 256 := by have := b3.toNat_lt; omega
  have j4 : (b4.toNat : Int) < 256 := by have := b4.toNat_lt; omega
  have j5 : (b5.toNat : Int) < 256 := by have := b5.toNat_lt; omega
  have j6 : (b6.toNat : Int) < 256 := by have := b6.toNat_lt; omega
  have j7 : (b7.toNat : Int) < 256 := by have := b7.toNat_lt; omega
  have h15 := and15w (b0.toNat + b1.toNat + b2.toNat + b3.toNat + b4.toNat + b5.toNat + b6.toNat + b7.toNat) (by have := b0.toNat_lt; have := b1.toNat_lt; have := b2.toNat_lt; have := b3.toNat_lt; have := b4.toNat_lt; have := b5.toNat_lt; have := b6.toNat_lt; have := b7.toNat_lt; omega)
  have hx := hfin.trans h15.symm
  refine Calls.mono (R := fun e w' => e = .returned (.bool (bits .and .i64 ((b0.toNat : Int) + b1.toNat + b2.toNat + b3.toNat + b4.toNat + b5.toNat + b6.toNat + b7.toNat) 15 == 15)) ∧ Below w.heap.size w w') ?_ (fun e w' h => ⟨h.1.trans (congrArg (fun b => Ending.returned (.bool b)) (by rw [hx]; simp only [Int.natCast_add])), h.2⟩)
  clear hl hfin h15 hx
  go_enter Tryz.func198, Tryz.ntmps198
  go_wp2
  have k1 : IntKind.i64.wrap ((s.size : Int) - 8) = (s.size : Int) - 8 := IntWalk.i64_in _ (by omega)
  have k2 : (8 : Int) ≤ (s.size : Int) := by omega
  have k4 : (s.size : Int) - 8 ≤ s.size := by omega
  have k3 : ((s.size : Int) - 8).toNat = s.size - 8 := by omega
  go_still_tail 6, (by kernel_rfl)
  change wpList _ _ _ _ _ (World.drew _)
  go_wp2
  have i0 : ∀ w, (Instr.index 319 (.agg #[B8 b0, B8 b1, B8 b2, B8 b3, B8 b4, B8 b5, B8 b6, B8 b7]) (.int .i64 0)).run Tryz.prog w = .ok (B8 b0) w := fun _ => by kernel_rfl
  have i1 : ∀ w, (Instr.index 319 (.agg #[B8 b0, B8 b1, B8 b2, B8 b3, B8 b4, B8 b5, B8 b6, B8 b7]) (.int .i64 1)).run Tryz.prog w = .ok (B8 b1) w := fun _ => by kernel_rfl
  have i2 : ∀ w, (Instr.index 319 (.agg #[B8 b0, B8 b1, B8 b2, B8 b3, B8 b4, B8 b5, B8 b6, B8 b7]) (.int .i64 2)).run Tryz.prog w = .ok (B8 b2) w := fun _ => by kernel_rfl
  have i3 : ∀ w, (Instr.index 319 (.agg #[B8 b0, B8 b1, B8 b2, B8 b3, B8 b4, B8 b5, B8 b6, B8 b7]) (.int .i64 3)).run Tryz.prog w = .ok (B8 b3) w := fun _ => by kernel_rfl
  have i4 : ∀ w, (Instr.index 319 (.agg #[B8 b0, B8 b1, B8 b2, B8 b3, B8 b4, B8 b5, B8 b6, B8 b7]) (.int .i64 4)).run Tryz.prog w = .ok (B8 b4) w := fun _ => by kernel_rfl
  have i5 : ∀ w, (Instr.index 319 (.agg #[B8 b0, B8 b1, B8 b2, B8 b3, B8 b4, B8 b5, B8 b6, B8 b7]) (.int .i64 5)).run Tryz.prog w = .ok (B8 b5) w := fun _ => by kernel_rfl
  have i6 : ∀ w, (Instr.index 319 (.agg #[B8 b0, B8 b1, B8 b2, B8 b3, B8 b4, B8 b5, B8 b6, B8 b7]) (.int .i64 6)).run Tryz.prog w = .ok (B8 b6) w := fun _ => by kernel_rfl
  have i7 : ∀ w, (Instr.index 319 (.agg #[B8 b0, B8 b1, B8 b2, B8 b3, B8 b4, B8 b5, B8 b6, B8 b7]) (.int .i64 7)).run Tryz.prog w = .ok (B8 b7) w := fun _ => by kernel_rfl
  go_rounds 9
  go_ret
  exact ⟨rfl, ((Below.refl _ _).alloc (Nat.le_refl _) _).drew⟩
/-- does a piece end? -/
theorem ends_any (s : ByteArray) (w : World) (hs : s.size ≤ 2 ^ 62) :
    Calls Tryz.prog 198 #[.string s] w fun e w' => e = .returned (.bool (endsB s.data.toList)) ∧ Below w.heap.size w w' := by
  rcases Nat.lt_or_ge s.size 16 with h | h
  · exact ends_small s w h
  · rcases Nat.lt_or_ge s.size 64 with h2 | h2
    · exact ends_mid s w h h2
    · exact ends_big s w hs h2

/-- 'ends' where its answer is known -/
theorem ends_is (s : ByteArray) (b : Bool) (w : World) (hs : s.size ≤ 2 ^ 62) (hb : endsB s.data.toList = b) :
    Calls Tryz.prog 198 #[.string s] w fun e w' => e = .returned (.bool b) ∧ Below w.heap.size w w' := by
  rw [← hb]; exact ends_any s w hs

set_option maxRecDepth 100000 in
set_option maxHeartbeats 1000000 in
/-- each place where a piece ends is handed to yield, in order -/
theorem each_in (n l n₀ : Nat) (s : ByteArray) (hs : s.size ≤ 2 ^ 40) (J Jx : List (Nat × Nat) → World → Prop)
    (hJ : ∀ pre W W', J pre W → W.grownBy W' none → J pre W')
    (hY : ∀ pre x W, J pre W → pre.length < (spans 0 (pieces s.data.toList)).length → (x : Nat × Nat).1 ≤ x.2 ∧ x.2 ≤ s.size → YieldAt Fence.wide n Tryz.prog l #[.int .i64 (x : Nat × Nat).1, .int .i64 x.2] W fun e W' =>
      (e = .returned (.bool true) ∧ J (pre ++ [x]) W' ∧ Below n₀ W W') ∨ (e = .returned (.bool false) ∧ Jx (pre ++ [x]) W'))
    (W : World) (h0 : J [] W) :
    CallsIn Fence.wide n Tryz.prog 161 #[.string s, .func (.yield l) #[] #[]] W fun e W' => (∃ v, e = .returned v) ∧
      ((∃ ys, ys = spans 0 (pieces s.data.toList) ∧ J ys W') ∨ (∃ pre, pre <+: spans 0 (pieces s.data.toList) ∧ Jx pre W')) := by
  have hz := size_toList s
  generalize hL : s.data.toList = L at *
  have HL := Lib.hid hL; clear hL
  have HZ := Lib.hid hz; clear hz
  refine callsIn_of_wp Tryz.func161 rfl trivial ?_ rfl
  simp only [Tryz.ntmps161, List.size_toArray, List.length_cons, List.length_nil, Nat.reduceAdd, Nat.reduceSub, Array.replicate_succ, Array.replicate_zero, List.push_toArray, List.append_toArray, List.nil_append, List.cons_append]
  gi_wp2
  gi_loopw [4, 8] (fun vf vi wr => ∃ (f k : Nat) (pre : List (Nat × Nat)), vf = .int .i64 f ∧ vi = .int .i64 k ∧ f ≤ k ∧ k ≤ s.size ∧ pre ++ Left L f k = spans 0 (pieces L) ∧ J pre wr)
    (fun _ vi _ => s.size - (RowKit.intOf vi).toNat)
  case atStart =>
    exact ⟨0, 0, [], rfl, rfl, Nat.le_refl _, Nat.zero_le _, rfl, h0⟩
  case round =>
    obtain ⟨f, k, pre, rfl, rfl, hfk, hk, hl, hj⟩ := hrel
    have Hl := Lib.hid hl; clear hl
    by_cases hlt : k < s.size
    · have hkL : k < L.length := by rw [← HZ.out]; exact hlt
      have hex : (s.extract f (k + 1)).data.toList = (L.take (k + 1)).drop f := by rw [extract_toList, HL.out]
      have hes : (s.extract f (k + 1)).size ≤ 2 ^ 62 := by simp; omega
      by_cases he : endsB ((L.take (k + 1)).drop f) = true
      · have hc := fun (m : Nat) W => (callsIn_wide (n := m)).2 (ends_is (s.extract f (k + 1)) true W hes (by rw [hex]; exact he))
        have hlen : pre.length < (spans 0 (pieces L)).length := by rw [← Hl.out, left_hit L f k hfk hkL he]; simp
        have hl' : Hid (pre ++ [(f, k + 1)] ++ Left L (k + 1) (k + 1) = spans 0 (pieces L)) := Lib.hid (by rw [← Hl.out, left_hit L f k hfk hkL he]; simp)
        have HC := Lib.hid hc
        clear hc hex he
        gi_wp2_with (refine ⟨trivial, wide_n, ?_⟩; gi_at_call 198; refine (HC.out _ _).mono ?_; rintro e W1 ⟨rfl, hb1⟩)
        obtain ⟨fn, tmps, assign, body, hy, hR⟩ := yield_any rfl (n - 1) (hY pre (f, k + 1) W1 (hJ pre _ _ hj (grownBy_of_below hb1)) hlen ⟨by simp; omega, by simp; omega⟩)
        simp only [Int.natCast_add, Int.natCast_one] at hy
        rw [hy, Oper.uponIn_round]
        refine ⟨wide_n, hR.mono ?_⟩
        rintro e W2 (⟨rfl, hJ2, hk2⟩ | ⟨rfl, hJx2⟩)
        · gi_wp2_with (refine ⟨trivial, wide_n, ?_⟩; gi_at_call 198; refine (HC.out _ _).mono ?_; rintro e W3 ⟨rfl, hb3⟩)
          go_roundw
          case rel => exact ⟨k + 1, k + 1, pre ++ [(f, k + 1)], rfl, rfl, Nat.le_refl _, by omega, hl'.out, hJ _ _ _ hJ2 (grownBy_of_below hb3)⟩
          case measure => simp [RowKit.intOf]; omega
        · gi_wp2
          refine bodyPost_ret (results_none rfl _ _ _) rfl ?_
          exact ⟨⟨_, rfl⟩, .inr ⟨pre ++ [(f, k + 1)], ⟨Left L (k + 1) (k + 1), hl'.out⟩, hJx2⟩⟩
      · have he' : endsB ((L.take (k + 1)).drop f) = false := by simpa using he
        have hc := fun (m : Nat) W => (callsIn_wide (n := m)).2 (ends_is (s.extract f (k + 1)) false W hes (by rw [hex]; exact he'))
        have HC := Lib.hid hc
        clear hc hex he
        by_cases hlast : k + 1 = s.size
        · have hll := left_last L f k hfk (by rw [← HZ.out]; exact hlast) he'
          have hle := left_end L f (k + 1) (by rw [← HZ.out, hlast]; exact Nat.le_refl _)
          have hlen : pre.length < (spans 0 (pieces L)).length := by rw [← Hl.out, hll]; simp
          have hl' : Hid (pre ++ [(f, k + 1)] ++ Left L f (k + 1) = spans 0 (pieces L)) := Lib.hid (by rw [← Hl.out, hll, hle]; simp)
          have hq : ((k : Int) + 1 == (s.size : Int)) = true := by rw [beq_iff_eq]; omega
          have HL2 := Lib.hid hlast
          clear hll hle he' hlast
          gi_wp2_with (refine ⟨trivial, wide_n, ?_⟩; gi_at_call 198; refine (HC.out _ _).mono ?_; rintro e W1 ⟨rfl, hb1⟩)
          obtain ⟨fn, tmps, assign, body, hy, hR⟩ := yield_any rfl (n - 1) (hY pre (f, k + 1) W1 (hJ pre _ _ hj (grownBy_of_below hb1)) hlen ⟨by simp; omega, by simp; omega⟩)
          simp only [Int.natCast_add, Int.natCast_one] at hy
          rw [hy, Oper.uponIn_round]
          refine ⟨wide_n, hR.mono ?_⟩
          rintro e W2 (⟨rfl, hJ2, hk2⟩ | ⟨rfl, hJx2⟩)
          · gi_wp2_with (refine ⟨trivial, wide_n, ?_⟩; gi_at_call 198; refine (HC.out _ _).mono ?_; rintro e W3 ⟨rfl, hb3⟩)
            go_roundw
            case rel => exact ⟨f, k + 1, pre ++ [(f, k + 1)], rfl, rfl, by omega, by omega, hl'.out, hJ _ _ _ hJ2 (grownBy_of_below hb3)⟩
            case measure => simp [RowKit.intOf]; omega
          · gi_wp2
            refine bodyPost_ret (results_none rfl _ _ _) rfl ?_
            exact ⟨⟨_, rfl⟩, .inr ⟨pre ++ [(f, k + 1)], ⟨Left L f (k + 1), hl'.out⟩, hJx2⟩⟩
        · have hl' : Hid (pre ++ Left L f (k + 1) = spans 0 (pieces L)) := Lib.hid (by rw [← Hl.out, left_miss L f k hfk (by rw [← HZ.out]; omega) he'])
          have hq : ((k : Int) + 1 == (s.size : Int)) = false := by rw [beq_eq_false_iff_ne]; omega
          clear he'
          gi_wp2_with (refine ⟨trivial, wide_n, ?_⟩; gi_at_call 198; refine (HC.out _ _).mono ?_; rintro e W1 ⟨rfl, hb1⟩; have hj := hJ _ _ _ hj (grownBy_of_below hb1); clear hb1)
          refine ⟨fun _ h => (by cases h), ?_⟩
          gi_wp2_with (refine ⟨trivial, wide_n, ?_⟩; gi_at_call 198; refine (HC.out _ _).mono ?_; rintro e W1 ⟨rfl, hb1⟩; have hj := hJ _ _ _ hj (grownBy_of_below hb1); clear hb1)
          go_roundw
          case rel => exact ⟨f, k + 1, pre, rfl, rfl, by omega, by omega, hl'.out, hj⟩
          case measure => simp [RowKit.intOf]; omega
    · have hle := left_end L f k (by rw [← HZ.out]; omega)
      have hfin : pre = spans 0 (pieces L) := by rw [← Hl.out, hle]; simp
      have HF := Lib.hid hfin
      clear hle hfin
      gi_wp2
      go_end0
      exact ⟨⟨_, rfl⟩, .inl ⟨pre, HF.out, hj⟩⟩

abbrev encSp {N : Nat} (x : Sp N) : Array Value := #[.int .i64 x.1.1, .int .i64 x.1.2]

set_option maxHeartbeats 1000000 in
theorem cutall_in (n : Nat) (s : ByteArray) (w : World) :
    CallsIn Fence.wide n Tryz.prog 109 #[.string s] w fun e w' => e = .returned (.func (.func 160) #[] #[.pointer (some ⟨w.heap.size, 0, none⟩)]) ∧ w' = w.alloc (.cells #[.string s] 9) := by
  refine callsIn_of_wp Tryz.func109 rfl trivial ?_ rfl
  simp only [Tryz.ntmps109, List.size_toArray, List.length_cons, List.length_nil, Nat.reduceAdd, Nat.reduceSub, Array.replicate_succ, Array.replicate_zero, List.push_toArray, List.append_toArray, List.nil_append, List.cons_append]
  gi_wp2
  go_ret
  exact ⟨rfl, rfl⟩

set_option maxHeartbeats 1000000 in
theorem cutall_stops (n Bn n₀ : Nat) (s : ByteArray) (hs : s.size ≤ 2 ^ 40) (w : World) (hBn : Bn < w.heap.size) (hc : w.cell? ⟨Bn, 0, none⟩ = some (.string s)) :
    SeqStopsK Fence.wide n Tryz.prog 160 #[.pointer (some ⟨Bn, 0, none⟩)] (encSp (N := s.size)) (Below n₀) (fun ys => ys.map (·.1) = spans 0 (pieces s.data.toList)) (fun _ => True) (spans 0 (pieces s.data.toList)).length w := by
  intro l J Jx W hW hJ hJx hY h0
  have hcell : W.cell? ⟨Bn, 0, none⟩ = some (.string s) := (hW.cell (p := ⟨Bn, 0, none⟩) hBn).trans hc
  have HC := Lib.hid (each_in (n - 1) l n₀ s hs (fun pre A => ∃ q : List (Sp s.size), q.map (·.1) = pre ∧ J q A) (fun pre A => ∃ q : List (Sp s.size), q.map (·.1) = pre ∧ Jx q A)
    (fun pre A B ⟨q, hq, hj⟩ hg => ⟨q, hq, hJ q A B none hj hg (fun r e => by cases e)⟩)
    (fun pre x A ⟨q, hq, hj⟩ hl hb => (yield_any rfl (n - 1) (hY q ⟨x, hb⟩ A hj (by rw [← hq, List.length_map] at hl; exact hl))).mono (fun e W' hr => by
      rcases hr with ⟨he, hj, hk⟩ | ⟨he, hj⟩
      · exact .inl ⟨he, ⟨_, by rw [List.map_append, hq]; rfl, hj⟩, hk⟩
      · exact .inr ⟨he, ⟨_, by rw [List.map_append, hq]; rfl, hj⟩⟩)) W ⟨[], rfl, h0⟩)
  clear hY h0 hJ hJx
  refine callsIn_of_wp Tryz.func160 rfl trivial ?_ rfl
  simp only [Tryz.ntmps160, List.size_toArray, List.length_cons, List.length_nil, Nat.reduceAdd, Nat.reduceSub, Array.replicate_succ, Array.replicate_zero, List.push_toArray, List.append_toArray, List.nil_append, List.cons_append]
  gi_wp2_with (refine ⟨trivial, wide_n, ?_⟩; gi_at_call 161; refine HC.out.mono ?_; rintro e W1 ⟨⟨v, rfl⟩, hq⟩)
  go_end0
  refine ⟨⟨_, rfl⟩, ?_⟩
  rcases hq with ⟨ys, hy, q, hq, hj⟩ | ⟨pre, hp, q, hq, hj⟩
  · exact .inl ⟨q, hq.trans hy, hj⟩
  · exact .inr ⟨q, trivial, hj⟩
end Go.Proofs.YtpanoplcamdnkaaGreatDoor
/- Walks of package cut: Cuts and Pieces hand back new slices that hold where pieces end, and the pieces. Condition: at most 2^40 bytes. -/
namespace Go.Proofs.YtpanoplcamdnkaaGreatDoor
open Go.RowKit Go.Lib Go.Shelf
attribute [local go_sem] Oper.semAt_some

theorem info_string : (Tryz.prog.info? 9).map (fun i => (i.zero, i.size, i.bytes)) = some (some (.string ByteArray.empty), 1, 16) := by kernel_rfl
abbrev VI (n : Nat) : Value := .int .i64 (n : Int)
abbrev VS (l : Bytes) : Value := .string (bs l)

def cutRow (s : ByteArray) (pre : List (Sp s.size)) : List Value := pre.map fun x => .string (s.extract x.1.1 x.1.2)
theorem cutRow_snoc (s : ByteArray) (pre : List (Sp s.size)) (x : Sp s.size) : cutRow s (pre ++ [x]) = cutRow s pre ++ [.string (s.extract x.1.1 x.1.2)] := by simp [cutRow]

set_option maxRecDepth 100000 in
set_option maxHeartbeats 2000000 in
theorem Pieces_in (n : Nat) (hn : 1 ≤ n) (s : ByteArray) (hs : s.size ≤ 2 ^ 40) (w : World) :
    CallsIn Fence.wide n Tryz.prog 57 #[.string s] w fun e W' => ∃ v, e = .returned v ∧ W'.ownsRow w.heap.size 9 1 v (pieces s.data.toList).length ((pieces s.data.toList).map VS) ∧ Below w.heap.size w W' := by
  obtain ⟨i0, hi, hz0, hz1, hz2⟩ := info_parts info_string
  refine callsIn_of_wp_marks Tryz.func57 rfl trivial ?_ rfl
  simp only [Tryz.ntmps57, List.size_toArray, List.length_cons, List.length_nil, Nat.reduceAdd, Nat.reduceSub, Array.replicate_succ, Array.replicate_zero, List.push_toArray, List.append_toArray, List.nil_append, List.cons_append]
  gi_wp2_with (refine ⟨trivial, ?_⟩; gi_at_call 109; refine (cutall_in _ _ _).mono ?_; rintro e w' ⟨rfl, rfl⟩)
  have hN : (spans 0 (pieces s.data.toList)).length ≤ 2 ^ 40 := by
    rw [spans_length]; have := pieces_length_le s.data.toList; rw [← size_toList] at this; omega
  generalize hZ : spans 0 (pieces s.data.toList) = Z at *
  have bS := Boxed.new w 9 (.string s)
  have bO := Boxed.new (w.alloc (.cells #[.string s] 9)) 27 (.slice none 0 0)
  rw [World.size_alloc] at bO
  have bN := Boxed.new ((w.alloc (.cells #[.string s] 9)).alloc (.cells #[.slice none 0 0] 27)) 9 (.string s)
  rw [World.size_alloc, World.size_alloc] at bN
  have hB0 : Below w.heap.size w (((w.alloc (.cells #[.string s] 9)).alloc (.cells #[.slice none 0 0] 27)).alloc (.cells #[.string s] 9)) :=
    (((Below.refl _ w).alloc (Nat.le_refl _) _).alloc (by simp) _).alloc (by simp; omega) _
  have hst := cutall_stops (n - 1) (w.heap.size + 1 + 1) w.heap.size s hs _ (by simp) bN.cell
  rw [hZ] at hst
  refine wpIn_rangeFunc_ownG wide_round hn (gf := 160) (lb := #[.pointer (some ⟨w.heap.size + 1 + 1, 0, none⟩)]) rfl trivial (enters_of Tryz.func160 (by kernel_rfl) rfl)
    hst belowK_t (belowK_b (by simp; omega)) (Below.refl _ _) (fun _ => rfl)
    (fun (pre : List (Sp s.size)) W => ((∃ v, Boxed W (w.heap.size + 1) 27 v ∧ W.ownsRow (w.heap.size + 1) 9 1 v pre.length (cutRow s pre) ∧ True) ∧ Below w.heap.size w W) ∧ Boxed W w.heap.size 9 (.string s))
    (fun _ _ _ => False)
    (OwnFrom.and (OwnFrom.and (Own.from (holdsRow_own (w.heap.size + 1) (w.heap.size + 1) 27 9 1 (fun pre : List (Sp s.size) => pre.length) (cutRow s) (fun (_ : List (Sp s.size)) _ => True)) _) (ownFrom_below (Nat.le_refl _) (by simp; omega))) (Own.from (boxed_own (β := List (Sp s.size)) w.heap.size 9 (fun _ => .string s)) _))
    (fun _ _ _ _ _ hs _ _ => hs)
    ⟨⟨⟨_, bO.alloc _, World.ownsRow_nil _ _ _ _, trivial⟩, hB0⟩, (bS.alloc _).alloc _⟩
    (fun x => { tmps := #[.string s, .pointer (some ⟨w.heap.size, 0, none⟩), .slice none 0 0, .pointer (some ⟨w.heap.size + 1, 0, none⟩), VI x.1.1, VI x.1.2, .string s, .func (.func 160) #[] #[.pointer (some ⟨w.heap.size + 1 + 1, 0, none⟩)], VI x.1.1, VI x.1.2, undef, undef, undef, undef, undef, undef, undef, undef], defers := [] }) ?assign ?body ?done ?stop
  case assign =>
    intro l x W K hK
    gi_wp2
    exact hK
  case body =>
    rintro l pre ⟨⟨f, k⟩, hx1, hx2⟩ W ⟨⟨⟨v, hv, hrow, _⟩, hB⟩, hS⟩ hlt
    have hc := hv.cell
    have hcs := hS.cell
    gi_wp2
    refine round_S (fun W' => W'.cell? ⟨w.heap.size + 1, 0, none⟩ = some v ∧ W'.cell? ⟨w.heap.size, 0, none⟩ = some (.string s)) 6 (by kernel_rfl) (by kernel_rfl) (by kernel_rfl) (fun _ _ h => h) ?_
    refine take_S 0 rfl (by kernel_rfl) rfl ⟨hc, hcs⟩ (by rintro W' ⟨h1, h2⟩; go_simp; rfl) ?_
    have hk1 : (0 : Int) ≤ (f : Int) := by omega
    have hk2 : (f : Int) ≤ (k : Int) := by simp at hx1; omega
    have hk3 : (k : Int) ≤ (s.size : Int) := by simp at hx2; omega
    refine take_S 1 rfl (by kernel_rfl) rfl ⟨hc, hcs⟩ (by rintro W' ⟨h1, h2⟩; go_simp; rfl) ?_
    refine take_S 2 rfl (by kernel_rfl) rfl ⟨hc, hcs⟩ (by rintro W' ⟨h1, h2⟩; go_simp; rfl) ?_
    refine take_S 3 rfl (by kernel_rfl) rfl ⟨hc, hcs⟩ (by rintro W' ⟨h1, h2⟩; go_simp; rfl) ?_
    refine take_S 4 rfl (by kernel_rfl) rfl ⟨hc, hcs⟩ (by rintro W' ⟨h1, h2⟩; go_simp; rfl) ?_
    refine carry_S 5 rfl (by kernel_rfl) (by decide) rfl (fun K hK => ?_)
    go_simp
    refine hK _ _ ⟨(hv.alloc _).cell, (hS.alloc _).cell⟩ (forced_S (by kernel_rfl) ?_)
    clear hK K
    simp only [List.drop_succ_cons, List.drop_zero]
    have hlen : pre.length + 1 ≤ 2 ^ 40 := by omega
    go_wp2_with (at_builtin; refine wpList_append_own _ rfl _ _ 27 rfl (w.heap.size + 1) 9 i0 (.string ByteArray.empty) 1 16 Tryz.underlying27 hi hz0 hz1 hz2 rfl (by decide) _ _ _ rfl (hrow.alloc _).drew ⟨W.heap.size, 0, none⟩ 1 1 [.string (s.extract f k)] rfl rfl (cell_one_new W _ _) (by simp [Value.oneCell']) (by unfold maxLen; omega) (by omega) (by have := hS.lt; simp; omega) ?_; intro v' w1 hown' hgrow _; obtain ⟨g', cap', rfl⟩ := ownsRow_succ hown'; obtain ⟨hv1, hv2, hr2, hk2, hb2⟩ := hv.appended (by decide) hrow hS.lt (Nat.le_refl _) hown' ⟨hgrow.os, hgrow.tape, hgrow.output, hgrow.size, hgrow.block⟩; have hc1 := hv1.cell; have hf1 := hv1.frozen)
    have hb3 := hb2.mono (Nat.le_succ _)
    exact ⟨hk2.from _, hb3, ⟨⟨_, hv2, by rw [cutRow_snoc, List.length_append]; exact hr2, trivial⟩, hB.trans hb3⟩, (hb2.block _ (Nat.lt_succ_self _)).trans hS⟩
  case done =>
    rintro D ys W hD hys ⟨⟨⟨v, hv, hrow, _⟩, hB⟩, hS⟩ hK
    have hc := hv.cell
    gi_wp2
    refine ⟨by simp, .inl ⟨_, _, rfl, run_takeDeferred hK, ?_⟩⟩
    refine ⟨_, results_tmp rfl _ _ _, v, rfl, ?_, hB.trans (belowK_b (w := w) (Nat.le_refl _) W D _ _ (by simp at hD; omega) hK rfl rfl)⟩
    have hrow' := ownsRow_putObj hrow (.deferred none) hK rfl
    have hp : pieces s.data.toList = ys.map (fun x => (s.data.toList.take x.1.2).drop x.1.1) := by
      rw [← pieces_spans, hZ, ← hys, List.map_map]; rfl
    rw [hp, List.length_map, List.map_map]
    have he : (VS ∘ fun x : Sp s.size => (s.data.toList.take x.1.2).drop x.1.1) = fun x => Value.string (s.extract x.1.1 x.1.2) := by
      funext x; simp only [Function.comp, VS, extract_bs]
    rw [he]
    exact hrow'.mono (Nat.le_succ _)
  case stop =>
    rintro D c pre W _ _ h _
    exact h.elim

theorem Pieces_any (s : ByteArray) (hs : s.size ≤ 2 ^ 40) (w : World) :
    Calls Tryz.prog 57 #[.string s] w fun e W' => ∃ v, e = .returned v ∧ W'.ownsRow w.heap.size 9 1 v (pieces s.data.toList).length ((pieces s.data.toList).map VS) ∧ Below w.heap.size w W' :=
  callsIn_wide.1 (Pieces_in 1 (Nat.le_refl _) s hs w)
end Go.Proofs.YtpanoplcamdnkaaGreatDoor

/- PrR, BfM in one text. Conditions: as each part says. -/
import Derived.Test.YtpanoplcamdnkaaGreatDoorPrt1
import Derived.Test.YtpanoplcamdnkaaGreatDoorPln3
import Derived.Test.YtpanoplcamdnkaaGreatDoorHlds
import Derived.Test.YtpanoplcamdnkaaGreatDoorPrt2
import Derived.Test.YtpanoplcamdnkaaGreatDoorBse1
import Derived.Test.YtpanoplcamdnkaaGreatDoorCmpT
/- Walks of the reference's PrintFrom, PrintOf, IDOf. No conditions but the length's bound. -/
namespace Go.Proofs.YtpanoplcamdnkaaGreatDoor
open Go.RowKit Go.Lib

theorem bits_xor_i64_nat (a b : Nat) (ha : a < 4294967296) (hb : b < 4294967296) : bits .xor .i64 (a : Int) (b : Int) = ((a ^^^ b : Nat) : Int) := by
  have hx : a ^^^ b < 2 ^ 32 := Nat.xor_lt_two_pow (by omega) (by omega)
  have h1 : (BitVec.ofInt 64 (a : Int)).toNat = a := by
    rw [BitVec.ofInt_natCast, BitVec.toNat_ofNat]; exact Nat.mod_eq_of_lt (by omega)
  have h2 : (BitVec.ofInt 64 (b : Int)).toNat = b := by
    rw [BitVec.ofInt_natCast, BitVec.toNat_ofNat]; exact Nat.mod_eq_of_lt (by omega)
  show IntKind.i64.wrap ((BitVec.ofInt 64 (a : Int) ^^^ BitVec.ofInt 64 (b : Int)).toNat : Int) = _
  rw [BitVec.toNat_xor, h1, h2]
  simp [IntKind.wrap, IntKind.bits, IntKind.signed]
  omega
theorem prStep_i64 (x : Nat) (c : UInt8) (hx : x < 4294967296) : bits .xor .i64 (x : Int) (c.toNat : Int) = ((x ^^^ c.toNat : Nat) : Int) :=
  bits_xor_i64_nat x c.toNat hx (by have := c.toNat_lt; omega)
theorem prStep_w (x : Nat) (c : UInt8) (hx : x < 4294967296) : (wrap64 (bits .xor .i64 (x : Int) (wrap64 (c.toNat : Int)) * 16777619)).tmod 4294967296 = ((prStep x c : Nat) : Int) := by
  have hc : c.toNat < 256 := c.toNat_lt
  have hy : x ^^^ c.toNat < 4294967296 := Nat.xor_lt_two_pow (n := 32) hx (Nat.lt_of_lt_of_le hc (by decide))
  rw [show wrap64 (c.toNat : Int) = (c.toNat : Int) by unfold wrap64; omega, prStep_i64 x c hx]
  unfold prStep
  generalize x ^^^ c.toNat = y at hy ⊢
  rw [show wrap64 ((y : Int) * 16777619) = ((y * 16777619 : Nat) : Int) by unfold wrap64; omega, Int.tmod_eq_emod_of_nonneg (by omega)]
  omega
set_option maxRecDepth 100000 in
set_option maxHeartbeats 1000000 in
theorem PrintFrom_any (n : Nat) (hn : n < 4294967296) (s : ByteArray) (w : World) (hs : s.size ≤ maxLen) :
    Calls Tryz.prog 234 #[.int .u32 (n : Int), .string s] w fun e w' => e = .returned (.int .u32 (prMore n s.data.toList : Nat)) ∧ w = w' := by
  unfold maxLen at hs
  go_enter Tryz.func234, Tryz.ntmps234
  go_wp2

  go_loop [5, 6] (fun v i => ∃ k : Nat, k ≤ s.size ∧ v = .int .i64 (prMore n (s.data.toList.take k) : Nat) ∧ i = .int .i64 k) (fun _ i => s.size - (RowKit.intOf i).toNat)
  case atStart => exact ⟨0, Nat.zero_le _, rfl, rfl⟩
  case round =>
    obtain ⟨k, hk, rfl, rfl⟩ := hrel
    by_cases hlt : k < s.size
    · have hl := prMore_lt n (s.data.toList.take k) hn
      have HT := Lib.hid (prMore_take_succ n s k hlt)
      generalize prMore n (s.data.toList.take k) = x at *
      have hxor := prStep_i64 x s[k] hl
      have hxl : x ^^^ s[k].toNat < 4294967296 := Nat.xor_lt_two_pow (n := 32) hl (Nat.lt_of_lt_of_le s[k].toNat_lt (by decide))
      go_wp2
      go_round
      case rel => exact ⟨k + 1, hlt, by rw [HT.out, prStep_w x s[k] hl], by go_num⟩
      case measure => simp [RowKit.intOf]; omega
    · obtain rfl : k = s.size := by omega
      have hq : s.data.toList.take s.size = s.data.toList := List.take_of_length_le (by rw [← size_toList]; exact Nat.le_refl _)
      rw [hq]
      clear hq
      have hl := prMore_lt n s.data.toList hn
      go_wp2
      go_ret
      exact ⟨rfl, rfl⟩
theorem PrintOf_any (s : ByteArray) (w : World) (hs : s.size ≤ maxLen) :
    Calls Tryz.prog 188 #[.string s] w fun e w' => e = .returned (.int .u32 (prOf s.data.toList : Nat)) ∧ w = w' := by
  go_enter Tryz.func188, Tryz.ntmps188
  go_wp2_with fail
  refine (PrintFrom_any 2166136261 (by omega) s _ hs).mono ?_
  rintro e w1 ⟨rfl, rfl⟩
  go_wp2
  go_ret
  exact ⟨rfl, rfl⟩
theorem IDOf_any (s : ByteArray) (w : World) (hs : s.size ≤ maxLen) :
    Calls Tryz.prog 143 #[.string s] w fun e w' => e = .returned (.agg #[.int .u32 (prOf s.data.toList : Nat), .int .i64 (s.size : Int)]) ∧ Below w.heap.size w w' := by
  go_enter Tryz.func143, Tryz.ntmps143
  go_wp2_with fail
  refine (PrintOf_any s _ hs).mono ?_
  rintro e w1 ⟨rfl, rfl⟩
  have hb1 := fun x => ((Below.refl w.heap.size w).alloc (Nat.le_refl _) (.cells #[.int .u32 ((prOf s.data.toList : Nat) : Int), x] 47))
  go_wp2
  go_returns
  exact ⟨rfl, hb1 _⟩
end Go.Proofs.YtpanoplcamdnkaaGreatDoor
/- Walks of bin.marked and of the reference's MarkedError: is a piece what its ID says, above the one ahead? Condition: the sentinels that are read lie as named (SomeS). -/
namespace Go.Proofs.YtpanoplcamdnkaaGreatDoor
open Go.RowKit Go.Lib

theorem ID_bs (t : Bytes) (ht : t.length ≤ maxLen) (w : World) : Calls Tryz.prog 24 #[.string (bs t)] w fun e w' => e = .returned (idV (idOf t)) ∧ Below w.heap.size w w' := by
  have := ID_any (bs t) w (by rw [bs_size]; exact ht)
  rw [bs_toList, bs_size] at this
  exact this
theorem RID_bs (t : Bytes) (ht : t.length ≤ maxLen) (w : World) : Calls Tryz.prog 143 #[.string (bs t)] w fun e w' => e = .returned (idV (idOf t)) ∧ Below w.heap.size w w' := by
  have := IDOf_any (bs t) w (by rw [bs_size]; exact ht)
  rw [bs_toList, bs_size] at this
  exact this
theorem mark_sum {L : HldL} {k : Nat} (hk : k < L.length) (e : ¬ idOf L[k].text = L[k].id) : markAt L k L[k] = 9 := markB_sum e
theorem mark_first {L : HldL} (hk : 0 < L.length) (e : idOf L[0].text = L[0].id) : markAt L 0 L[0] = 0 := markB_first e
theorem mark_next {L : HldL} {j : Nat} (hk : j + 1 < L.length) (e : idOf L[j + 1].text = L[j + 1].id) : markAt L (j + 1) L[j + 1] = if lesser L[j].id L[j + 1].id = true then 0 else 8 := by
  unfold markAt
  rw [if_neg (by omega), Nat.add_sub_cancel, List.getElem?_eq_getElem (by omega : j < L.length)]
  cases h : lesser L[j].id L[j + 1].id with
  | true => rw [markB_fine e h]; rfl
  | false => rw [markB_order e h]; rfl
set_option maxRecDepth 100000 in
set_option maxHeartbeats 2000000 in
theorem RMarked_sum (v : Value) (L : HldL) (hl : L.length ≤ 2 ^ 40) (hL : ∀ x ∈ L, x.text.length ≤ 2 ^ 40) (k : Nat) (hk : k < L.length) (hid : ¬ idOf L[k].text = L[k].id) (B : Nat) (w : World) (hv : RdL w B v L) (hB : B ≤ w.heap.size) :
    Calls Tryz.prog 91 #[v, .int .i64 ((k : Nat) : Int)] w fun e w' => e = .returned (.int .i64 (markAt L k L[k])) ∧ Below w.heap.size w w' := by
  obtain ⟨A, c, rfl, hc, hx⟩ := hv.form
  obtain ⟨g, o, rfl, hg, hcells⟩ := hx (by omega)
  have hgl : g < w.heap.size := Nat.lt_of_lt_of_le hg hB
  obtain ⟨c0, c1, c2, c3⟩ := hcells k hk
  have HIDC := Lib.hid (fun w' => RID_bs L[k].text (by have := hL L[k] (List.getElem_mem hk); unfold maxLen; omega) w')
  have C0 : Hid (w.cell? ⟨g, o + k * 4, none⟩ = some (.int .u32 (L[k].id.1 : Int))) := Lib.hid (c0)
  have C1 : Hid (w.cell? ⟨g, o + k * 4 + 1, none⟩ = some (.int .i64 L[k].id.2)) := Lib.hid (c1)
  have C3 : Hid (w.cell? ⟨g, o + k * 4 + 3, none⟩ = some (.string (bs L[k].text))) := Lib.hid (c3)
  have b1 : (0 : Int) ≤ (k : Int) := by omega
  have b2 : (k : Int) < (L.length : Int) := by omega
  have HID2 := idq_ne hid
  rcases HID2 with q1 | ⟨q1, q2⟩
  · have HM := Lib.hid (mark_sum hk hid)
    clear hcells c0 c1 c2 c3 hx hid hL hv
    go_enter Tryz.func91, Tryz.ntmps91
    go_wp2
    have hS0 : Below w.heap.size w w.drew := (Below.refl _ _).drew
    refine region_S (fun w' => Below w.heap.size w w') 11 (by kernel_rfl) (by kernel_rfl) ?_
    refine take_S 0 rfl (by kernel_rfl) (by kernel_rfl) hS0 (fun w' hS => by go_simp; rfl) ?_
    refine take_S 1 rfl (by kernel_rfl) (by kernel_rfl) hS0 (fun w' hS => by go_simp; rfl) ?_
    refine take_S 2 rfl (by kernel_rfl) (by kernel_rfl) hS0 (fun w' hS => by go_simp; rfl) ?_
    refine take_S 3 rfl (by kernel_rfl) (by kernel_rfl) hS0 (fun w' hS => by go_simp; rfl) ?_
    refine take_S 4 rfl (by kernel_rfl) (by kernel_rfl) hS0 (fun w' hS => by have A3 := (hS.cell (p := ⟨g, o + k * 4 + 3, none⟩) hgl).trans C3.out; go_simp; rfl) ?_
    refine take_S 6 rfl (by kernel_rfl) (by kernel_rfl) hS0 (fun w' hS => by go_simp; rfl) ?_
    refine take_S 7 rfl (by kernel_rfl) (by kernel_rfl) hS0 (fun w' hS => by go_simp; rfl) ?_
    refine take_S 8 rfl (by kernel_rfl) (by kernel_rfl) hS0 (fun w' hS => by go_simp; rfl) ?_
    refine take_S 9 rfl (by kernel_rfl) (by kernel_rfl) hS0 (fun w' hS => by go_simp; rfl) ?_
    refine take_S 10 rfl (by kernel_rfl) (by kernel_rfl) hS0 (fun w' hS => by have A0 := (hS.cell (p := ⟨g, o + k * 4, none⟩) hgl).trans C0.out; have A1 := (hS.cell (p := ⟨g, o + k * 4 + 1, none⟩) hgl).trans C1.out; go_simp; rfl) ?_
    refine carry_S 5 rfl (by kernel_rfl) (by decide) (by kernel_rfl) (fun K hK => ?_)
    go_simp
    refine (HIDC.out _).mono ?_
    rintro e w1 ⟨rfl, hbw1⟩
    have hS1 : Below w.heap.size w w1 := hS0.trans (hbw1.mono hS0.size)
    refine hK _ _ hS1 (forced_S (by kernel_rfl) ?_)
    clear hK K
    try simp only [Act.put, List.getElem_toArray, List.getElem_cons_succ, List.getElem_cons_zero, List.setIfInBounds_toArray, List.set_cons_zero, List.set_cons_succ]
    try simp only [Act.put, List.getElem_toArray, List.getElem_cons_succ, List.getElem_cons_zero, List.setIfInBounds_toArray, List.set_cons_zero, List.set_cons_succ]
    simp only [List.drop_succ_cons, List.drop_zero]
    have HS1 := Lib.hid hS1
    clear hS0 hS1 hbw1
    go_wp2
    go_ret
    exact ⟨by rw [HM.out]; rfl, HS1.out⟩
  · have HM := Lib.hid (mark_sum hk hid)
    clear hcells c0 c1 c2 c3 hx hid hL hv
    go_enter Tryz.func91, Tryz.ntmps91
    go_wp2
    have hS0 : Below w.heap.size w w.drew := (Below.refl _ _).drew
    refine region_S (fun w' => Below w.heap.size w w') 11 (by kernel_rfl) (by kernel_rfl) ?_
    refine take_S 0 rfl (by kernel_rfl) (by kernel_rfl) hS0 (fun w' hS => by go_simp; rfl) ?_
    refine take_S 1 rfl (by kernel_rfl) (by kernel_rfl) hS0 (fun w' hS => by go_simp; rfl) ?_
    refine take_S 2 rfl (by kernel_rfl) (by kernel_rfl) hS0 (fun w' hS => by go_simp; rfl) ?_
    refine take_S 3 rfl (by kernel_rfl) (by kernel_rfl) hS0 (fun w' hS => by go_simp; rfl) ?_
    refine take_S 4 rfl (by kernel_rfl) (by kernel_rfl) hS0 (fun w' hS => by have A3 := (hS.cell (p := ⟨g, o + k * 4 + 3, none⟩) hgl).trans C3.out; go_simp; rfl) ?_
    refine take_S 6 rfl (by kernel_rfl) (by kernel_rfl) hS0 (fun w' hS => by go_simp; rfl) ?_
    refine take_S 7 rfl (by kernel_rfl) (by kernel_rfl) hS0 (fun w' hS => by go_simp; rfl) ?_
    refine take_S 8 rfl (by kernel_rfl) (by kernel_rfl) hS0 (fun w' hS => by go_simp; rfl) ?_
    refine take_S 9 rfl (by kernel_rfl) (by kernel_rfl) hS0 (fun w' hS => by go_simp; rfl) ?_
    refine take_S 10 rfl (by kernel_rfl) (by kernel_rfl) hS0 (fun w' hS => by have A0 := (hS.cell (p := ⟨g, o + k * 4, none⟩) hgl).trans C0.out; have A1 := (hS.cell (p := ⟨g, o + k * 4 + 1, none⟩) hgl).trans C1.out; go_simp; rfl) ?_
    refine carry_S 5 rfl (by kernel_rfl) (by decide) (by kernel_rfl) (fun K hK => ?_)
    go_simp
    refine (HIDC.out _).mono ?_
    rintro e w1 ⟨rfl, hbw1⟩
    have hS1 : Below w.heap.size w w1 := hS0.trans (hbw1.mono hS0.size)
    refine hK _ _ hS1 (forced_S (by kernel_rfl) ?_)
    clear hK K
    try simp only [Act.put, List.getElem_toArray, List.getElem_cons_succ, List.getElem_cons_zero, List.setIfInBounds_toArray, List.set_cons_zero, List.set_cons_succ]
    try simp only [Act.put, List.getElem_toArray, List.getElem_cons_succ, List.getElem_cons_zero, List.setIfInBounds_toArray, List.set_cons_zero, List.set_cons_succ]
    simp only [List.drop_succ_cons, List.drop_zero]
    have HS1 := Lib.hid hS1
    clear hS0 hS1 hbw1
    go_wp2
    go_ret
    exact ⟨by rw [HM.out]; rfl, HS1.out⟩
set_option maxRecDepth 100000 in
set_option maxHeartbeats 2000000 in
theorem RMarked_first (v : Value) (L : HldL) (hl : L.length ≤ 2 ^ 40) (hL : ∀ x ∈ L, x.text.length ≤ 2 ^ 40) (hk : 0 < L.length) (hid : idOf L[0].text = L[0].id) (B : Nat) (w : World) (hv : RdL w B v L) (hB : B ≤ w.heap.size) :
    Calls Tryz.prog 91 #[v, .int .i64 ((0 : Nat) : Int)] w fun e w' => e = .returned (.int .i64 (markAt L 0 L[0])) ∧ Below w.heap.size w w' := by
  obtain ⟨A, c, rfl, hc, hx⟩ := hv.form
  obtain ⟨g, o, rfl, hg, hcells⟩ := hx (by omega)
  have hgl : g < w.heap.size := Nat.lt_of_lt_of_le hg hB
  obtain ⟨c0, c1, c2, c3⟩ := hcells 0 hk
  have HIDC := Lib.hid (fun w' => RID_bs L[0].text (by have := hL L[0] (List.getElem_mem hk); unfold maxLen; omega) w')
  have C0 : Hid (w.cell? ⟨g, o, none⟩ = some (.int .u32 (L[0].id.1 : Int))) := Lib.hid (by simpa using c0)
  have C1 : Hid (w.cell? ⟨g, o + 1, none⟩ = some (.int .i64 L[0].id.2)) := Lib.hid (by simpa using c1)
  have C3 : Hid (w.cell? ⟨g, o + 3, none⟩ = some (.string (bs L[0].text))) := Lib.hid (by simpa using c3)
  have b1 : (0 : Int) ≤ (0 : Int) := by omega
  have b2 : (0 : Int) < (L.length : Int) := by omega
  obtain ⟨q1, q2⟩ := idq_eqs hid
  have HM := Lib.hid (mark_first hk hid)
  clear hcells c0 c1 c2 c3 hx hid hL hv
  go_enter Tryz.func91, Tryz.ntmps91
  go_wp2
  have hS0 : Below w.heap.size w w.drew := (Below.refl _ _).drew
  refine region_S (fun w' => Below w.heap.size w w') 11 (by kernel_rfl) (by kernel_rfl) ?_
  refine take_S 0 rfl (by kernel_rfl) (by kernel_rfl) hS0 (fun w' hS => by go_simp; rfl) ?_
  refine take_S 1 rfl (by kernel_rfl) (by kernel_rfl) hS0 (fun w' hS => by go_simp; rfl) ?_
  refine take_S 2 rfl (by kernel_rfl) (by kernel_rfl) hS0 (fun w' hS => by go_simp; rfl) ?_
  refine take_S 3 rfl (by kernel_rfl) (by kernel_rfl) hS0 (fun w' hS => by go_simp; rfl) ?_
  refine take_S 4 rfl (by kernel_rfl) (by kernel_rfl) hS0 (fun w' hS => by have A3 := (hS.cell (p := ⟨g, o + 3, none⟩) hgl).trans C3.out; go_simp; rfl) ?_
  refine take_S 6 rfl (by kernel_rfl) (by kernel_rfl) hS0 (fun w' hS => by go_simp; rfl) ?_
  refine take_S 7 rfl (by kernel_rfl) (by kernel_rfl) hS0 (fun w' hS => by go_simp; rfl) ?_
  refine take_S 8 rfl (by kernel_rfl) (by kernel_rfl) hS0 (fun w' hS => by go_simp; rfl) ?_
  refine take_S 9 rfl (by kernel_rfl) (by kernel_rfl) hS0 (fun w' hS => by go_simp; rfl) ?_
  refine take_S 10 rfl (by kernel_rfl) (by kernel_rfl) hS0 (fun w' hS => by have A0 := (hS.cell (p := ⟨g, o, none⟩) hgl).trans C0.out; have A1 := (hS.cell (p := ⟨g, o + 1, none⟩) hgl).trans C1.out; go_simp; rfl) ?_
  refine carry_S 5 rfl (by kernel_rfl) (by decide) (by kernel_rfl) (fun K hK => ?_)
  go_simp
  refine (HIDC.out _).mono ?_
  rintro e w1 ⟨rfl, hbw1⟩
  have hS1 : Below w.heap.size w w1 := hS0.trans (hbw1.mono hS0.size)
  refine hK _ _ hS1 (forced_S (by kernel_rfl) ?_)
  clear hK K
  try simp only [Act.put, List.getElem_toArray, List.getElem_cons_succ, List.getElem_cons_zero, List.setIfInBounds_toArray, List.set_cons_zero, List.set_cons_succ]
  try simp only [Act.put, List.getElem_toArray, List.getElem_cons_succ, List.getElem_cons_zero, List.setIfInBounds_toArray, List.set_cons_zero, List.set_cons_succ]
  simp only [List.drop_succ_cons, List.drop_zero]
  have HS1 := Lib.hid hS1
  clear hS0 hS1 hbw1
  go_wp2
  go_ret
  exact ⟨by rw [HM.out]; rfl, HS1.out⟩
set_option maxRecDepth 100000 in
set_option maxHeartbeats 2000000 in
theorem RMarked_next_true (v : Value) (L : HldL) (hl : L.length ≤ 2 ^ 40) (hL : ∀ x ∈ L, x.text.length ≤ 2 ^ 40) (j : Nat) (hk : j + 1 < L.length) (hid : idOf L[j + 1].text = L[j + 1].id) (hlt : lesser L[j].id L[j + 1].id = true) (B : Nat) (w : World) (hv : RdL w B v L) (hB : B ≤ w.heap.size) :
    Calls Tryz.prog 91 #[v, .int .i64 (((j + 1) : Nat) : Int)] w fun e w' => e = .returned (.int .i64 (markAt L (j + 1) L[(j + 1)])) ∧ Below w.heap.size w w' := by
  obtain ⟨A, c, rfl, hc, hx⟩ := hv.form
  obtain ⟨g, o, rfl, hg, hcells⟩ := hx (by omega)
  have hgl : g < w.heap.size := Nat.lt_of_lt_of_le hg hB
  obtain ⟨c0, c1, c2, c3⟩ := hcells (j + 1) hk
  have HIDC := Lib.hid (fun w' => RID_bs L[(j + 1)].text (by have := hL L[(j + 1)] (List.getElem_mem hk); unfold maxLen; omega) w')
  have C0 : Hid (w.cell? ⟨g, o + (j + 1) * 4, none⟩ = some (.int .u32 (L[(j + 1)].id.1 : Int))) := Lib.hid (c0)
  have C1 : Hid (w.cell? ⟨g, o + (j + 1) * 4 + 1, none⟩ = some (.int .i64 L[(j + 1)].id.2)) := Lib.hid (c1)
  have C3 : Hid (w.cell? ⟨g, o + (j + 1) * 4 + 3, none⟩ = some (.string (bs L[(j + 1)].text))) := Lib.hid (c3)
  have b1 : (0 : Int) ≤ (j : Int) + 1 := by omega
  have b2 : (j : Int) + 1 < (L.length : Int) := by omega
  obtain ⟨q1, q2⟩ := idq_eqs hid
  have HM := Lib.hid (show markAt L (j + 1) L[j + 1] = 0 by rw [mark_next hk hid, hlt]; rfl)
  obtain ⟨d0, d1, d2, d3⟩ := hcells j (by omega)
  clear d2 d3
  have D0 := Lib.hid d0
  have D1 := Lib.hid d1
  have HLT : Hid (lessId L[j].id.1 L[j + 1].id.1 L[j].id.2 L[j + 1].id.2 = true) := Lib.hid hlt
  clear hcells c0 c1 c2 c3 d0 d1 hx hid hL hv hlt
  go_enter Tryz.func91, Tryz.ntmps91
  go_wp2
  have hS0 : Below w.heap.size w w.drew := (Below.refl _ _).drew
  refine region_S (fun w' => Below w.heap.size w w') 11 (by kernel_rfl) (by kernel_rfl) ?_
  refine take_S 0 rfl (by kernel_rfl) (by kernel_rfl) hS0 (fun w' hS => by go_simp; rfl) ?_
  refine take_S 1 rfl (by kernel_rfl) (by kernel_rfl) hS0 (fun w' hS => by go_simp; rfl) ?_
  refine take_S 2 rfl (by kernel_rfl) (by kernel_rfl) hS0 (fun w' hS => by go_simp; rfl) ?_
  refine take_S 3 rfl (by kernel_rfl) (by kernel_rfl) hS0 (fun w' hS => by go_simp; rfl) ?_
  refine take_S 4 rfl (by kernel_rfl) (by kernel_rfl) hS0 (fun w' hS => by have A3 := (hS.cell (p := ⟨g, o + (j + 1) * 4 + 3, none⟩) hgl).trans C3.out; go_simp; rfl) ?_
  refine take_S 6 rfl (by kernel_rfl) (by kernel_rfl) hS0 (fun w' hS => by go_simp; rfl) ?_
  refine take_S 7 rfl (by kernel_rfl) (by kernel_rfl) hS0 (fun w' hS => by go_simp; rfl) ?_
  refine take_S 8 rfl (by kernel_rfl) (by kernel_rfl) hS0 (fun w' hS => by go_simp; rfl) ?_
  refine take_S 9 rfl (by kernel_rfl) (by kernel_rfl) hS0 (fun w' hS => by go_simp; rfl) ?_
  refine take_S 10 rfl (by kernel_rfl) (by kernel_rfl) hS0 (fun w' hS => by have A0 := (hS.cell (p := ⟨g, o + (j + 1) * 4, none⟩) hgl).trans C0.out; have A1 := (hS.cell (p := ⟨g, o + (j + 1) * 4 + 1, none⟩) hgl).trans C1.out; go_simp; rfl) ?_
  refine carry_S 5 rfl (by kernel_rfl) (by decide) (by kernel_rfl) (fun K hK => ?_)
  go_simp
  refine (HIDC.out _).mono ?_
  rintro e w1 ⟨rfl, hbw1⟩
  have hS1 : Below w.heap.size w w1 := hS0.trans (hbw1.mono hS0.size)
  refine hK _ _ hS1 (forced_S (by kernel_rfl) ?_)
  clear hK K
  try simp only [Act.put, List.getElem_toArray, List.getElem_cons_succ, List.getElem_cons_zero, List.setIfInBounds_toArray, List.set_cons_zero, List.set_cons_succ]
  try simp only [Act.put, List.getElem_toArray, List.getElem_cons_succ, List.getElem_cons_zero, List.setIfInBounds_toArray, List.set_cons_zero, List.set_cons_succ]
  simp only [List.drop_succ_cons, List.drop_zero]
  have HS1 := Lib.hid hS1
  have hgl1 : g < w1.heap.size := Nat.lt_of_lt_of_le hgl hS1.size
  have E0 := Lib.hid ((hS1.cell (p := ⟨g, o + j * 4, none⟩) hgl).trans D0.out)
  have E1 := Lib.hid ((hS1.cell (p := ⟨g, o + j * 4 + 1, none⟩) hgl).trans D1.out)
  have F0 := Lib.hid ((hS1.cell (p := ⟨g, o + (j + 1) * 4, none⟩) hgl).trans C0.out)
  have F1 := Lib.hid ((hS1.cell (p := ⟨g, o + (j + 1) * 4 + 1, none⟩) hgl).trans C1.out)
  clear hS0 hS1 hbw1
  have b3 : (j : Int) + 1 > 0 := by omega
  have HWR : Hid (IntKind.i64.wrap (j : Int) = (j : Int)) := Lib.hid (IntWalk.i64_in _ (by omega))
  have b4 : (j : Int) < (L.length : Int) := by omega
  have b5 : j < L.length := by omega
  go_wp2
  have hT0 : Below w1.heap.size w1 w1.drew := (Below.refl _ _).drew
  refine region_S (fun w' => Below w1.heap.size w1 w') 12 (by kernel_rfl) (by kernel_rfl) ?_
  refine take_S 0 rfl (by kernel_rfl) (by kernel_rfl) hT0 (fun w' hS => by go_simp; rfl) ?_
  refine take_S 1 rfl (by kernel_rfl) (by kernel_rfl) hT0 (fun w' hS => by go_simp; rfl) ?_
  refine take_S 2 (v := .int .i64 (j : Int)) rfl (by kernel_rfl) (by kernel_rfl) hT0 (fun w' hS => by have W1 := b3; have W2 := HWR.out; go_simp) ?_
  refine take_S 3 rfl (by kernel_rfl) (by kernel_rfl) hT0 (fun w' hS => by go_simp; rfl) ?_
  refine take_S 4 rfl (by kernel_rfl) (by kernel_rfl) hT0 (fun w' hS => by go_simp; rfl) ?_
  refine take_S 5 rfl (by kernel_rfl) (by kernel_rfl) hT0 (fun w' hS => by have A0 := (hS.cell (p := ⟨g, o + j * 4, none⟩) hgl1).trans E0.out; have A1 := (hS.cell (p := ⟨g, o + j * 4 + 1, none⟩) hgl1).trans E1.out; go_simp; rfl) ?_
  refine take_S 6 rfl (by kernel_rfl) (by kernel_rfl) hT0 (fun w' hS => by go_simp; rfl) ?_
  refine take_S 7 rfl (by kernel_rfl) (by kernel_rfl) hT0 (fun w' hS => by go_simp; rfl) ?_
  refine take_S 8 rfl (by kernel_rfl) (by kernel_rfl) hT0 (fun w' hS => by go_simp; rfl) ?_
  refine take_S 9 rfl (by kernel_rfl) (by kernel_rfl) hT0 (fun w' hS => by go_simp; rfl) ?_
  refine take_S 10 rfl (by kernel_rfl) (by kernel_rfl) hT0 (fun w' hS => by have A0 := (hS.cell (p := ⟨g, o + (j + 1) * 4, none⟩) hgl1).trans F0.out; have A1 := (hS.cell (p := ⟨g, o + (j + 1) * 4 + 1, none⟩) hgl1).trans F1.out; go_simp; rfl) ?_
  refine carry_S 11 rfl (by kernel_rfl) (by decide) (by kernel_rfl) (fun K hK => ?_)
  go_simp
  refine (RIsLess_any L[j].id.1 L[j + 1].id.1 L[j].id.2 L[j + 1].id.2 _).mono ?_
  rintro e w2 ⟨rfl, hbw2⟩
  have hT1 : Below w1.heap.size w1 w2 := hT0.trans (hbw2.mono hT0.size)
  refine hK _ _ hT1 (forced_S (by kernel_rfl) ?_)
  clear hK K
  try simp only [Act.put, List.getElem_toArray, List.getElem_cons_succ, List.getElem_cons_zero, List.setIfInBounds_toArray, List.set_cons_zero, List.set_cons_succ]
  try simp only [Act.put, List.getElem_toArray, List.getElem_cons_succ, List.getElem_cons_zero, List.setIfInBounds_toArray, List.set_cons_zero, List.set_cons_succ]
  simp only [List.drop_succ_cons, List.drop_zero]
  rw [HLT.out]
  have HB2 := Lib.hid (HS1.out.trans (hT1.mono HS1.out.size))
  clear hT0 hT1 hbw2
  go_wp2
  go_ret
  exact ⟨by rw [HM.out]; rfl, HB2.out⟩
set_option maxRecDepth 100000 in
set_option maxHeartbeats 2000000 in
theorem RMarked_next_false (v : Value) (L : HldL) (hl : L.length ≤ 2 ^ 40) (hL : ∀ x ∈ L, x.text.length ≤ 2 ^ 40) (j : Nat) (hk : j + 1 < L.length) (hid : idOf L[j + 1].text = L[j + 1].id) (hlt : lesser L[j].id L[j + 1].id = false) (B : Nat) (w : World) (hv : RdL w B v L) (hB : B ≤ w.heap.size) :
    Calls Tryz.prog 91 #[v, .int .i64 (((j + 1) : Nat) : Int)] w fun e w' => e = .returned (.int .i64 (markAt L (j + 1) L[(j + 1)])) ∧ Below w.heap.size w w' := by
  obtain ⟨A, c, rfl, hc, hx⟩ := hv.form
  obtain ⟨g, o, rfl, hg, hcells⟩ := hx (by omega)
  have hgl : g < w.heap.size := Nat.lt_of_lt_of_le hg hB
  obtain ⟨c0, c1, c2, c3⟩ := hcells (j + 1) hk
  have HIDC := Lib.hid (fun w' => RID_bs L[(j + 1)].text (by have := hL L[(j + 1)] (List.getElem_mem hk); unfold maxLen; omega) w')
  have C0 : Hid (w.cell? ⟨g, o + (j + 1) * 4, none⟩ = some (.int .u32 (L[(j + 1)].id.1 : Int))) := Lib.hid (c0)
  have C1 : Hid (w.cell? ⟨g, o + (j + 1) * 4 + 1, none⟩ = some (.int .i64 L[(j + 1)].id.2)) := Lib.hid (c1)
  have C3 : Hid (w.cell? ⟨g, o + (j + 1) * 4 + 3, none⟩ = some (.string (bs L[(j + 1)].text))) := Lib.hid (c3)
  have b1 : (0 : Int) ≤ (j : Int) + 1 := by omega
  have b2 : (j : Int) + 1 < (L.length : Int) := by omega
  obtain ⟨q1, q2⟩ := idq_eqs hid
  have HM := Lib.hid (show markAt L (j + 1) L[j + 1] = 8 by rw [mark_next hk hid, hlt]; rfl)
  obtain ⟨d0, d1, d2, d3⟩ := hcells j (by omega)
  clear d2 d3
  have D0 := Lib.hid d0
  have D1 := Lib.hid d1
  have HLT : Hid (lessId L[j].id.1 L[j + 1].id.1 L[j].id.2 L[j + 1].id.2 = false) := Lib.hid hlt
  clear hcells c0 c1 c2 c3 d0 d1 hx hid hL hv hlt
  go_enter Tryz.func91, Tryz.ntmps91
  go_wp2
  have hS0 : Below w.heap.size w w.drew := (Below.refl _ _).drew
  refine region_S (fun w' => Below w.heap.size w w') 11 (by kernel_rfl) (by kernel_rfl) ?_
  refine take_S 0 rfl (by kernel_rfl) (by kernel_rfl) hS0 (fun w' hS => by go_simp; rfl) ?_
  refine take_S 1 rfl (by kernel_rfl) (by kernel_rfl) hS0 (fun w' hS => by go_simp; rfl) ?_
  refine take_S 2 rfl (by kernel_rfl) (by kernel_rfl) hS0 (fun w' hS => by go_simp; rfl) ?_
  refine take_S 3 rfl (by kernel_rfl) (by kernel_rfl) hS0 (fun w' hS => by go_simp; rfl) ?_
  refine take_S 4 rfl (by kernel_rfl) (by kernel_rfl) hS0 (fun w' hS => by have A3 := (hS.cell (p := ⟨g, o + (j + 1) * 4 + 3, none⟩) hgl).trans C3.out; go_simp; rfl) ?_
  refine take_S 6 rfl (by kernel_rfl) (by kernel_rfl) hS0 (fun w' hS => by go_simp; rfl) ?_
  refine take_S 7 rfl (by kernel_rfl) (by kernel_rfl) hS0 (fun w' hS => by go_simp; rfl) ?_
  refine take_S 8 rfl (by kernel_rfl) (by kernel_rfl) hS0 (fun w' hS => by go_simp; rfl) ?_
  refine take_S 9 rfl (by kernel_rfl) (by kernel_rfl) hS0 (fun w' hS => by go_simp; rfl) ?_
  refine take_S 10 rfl (by kernel_rfl) (by kernel_rfl) hS0 (fun w' hS => by have A0 := (hS.cell (p := ⟨g, o + (j + 1) * 4, none⟩) hgl).trans C0.out; have A1 := (hS.cell (p := ⟨g, o + (j + 1) * 4 + 1, none⟩) hgl).trans C1.out; go_simp; rfl) ?_
  refine carry_S 5 rfl (by kernel_rfl) (by decide) (by kernel_rfl) (fun K hK => ?_)
  go_simp
  refine (HIDC.out _).mono ?_
  rintro e w1 ⟨rfl, hbw1⟩
  have hS1 : Below w.heap.size w w1 := hS0.trans (hbw1.mono hS0.size)
  refine hK _ _ hS1 (forced_S (by kernel_rfl) ?_)
  clear hK K
  try simp only [Act.put, List.getElem_toArray, List.getElem_cons_succ, List.getElem_cons_zero, List.setIfInBounds_toArray, List.set_cons_zero, List.set_cons_succ]
  try simp only [Act.put, List.getElem_toArray, List.getElem_cons_succ, List.getElem_cons_zero, List.setIfInBounds_toArray, List.set_cons_zero, List.set_cons_succ]
  simp only [List.drop_succ_cons, List.drop_zero]
  have HS1 := Lib.hid hS1
  have hgl1 : g < w1.heap.size := Nat.lt_of_lt_of_le hgl hS1.size
  have E0 := Lib.hid ((hS1.cell (p := ⟨g, o + j * 4, none⟩) hgl).trans D0.out)
  have E1 := Lib.hid ((hS1.cell (p := ⟨g, o + j * 4 + 1, none⟩) hgl).trans D1.out)
  have F0 := Lib.hid ((hS1.cell (p := ⟨g, o + (j + 1) * 4, none⟩) hgl).trans C0.out)
  have F1 := Lib.hid ((hS1.cell (p := ⟨g, o + (j + 1) * 4 + 1, none⟩) hgl).trans C1.out)
  clear hS0 hS1 hbw1
  have b3 : (j : Int) + 1 > 0 := by omega
  have HWR : Hid (IntKind.i64.wrap (j : Int) = (j : Int)) := Lib.hid (IntWalk.i64_in _ (by omega))
  have b4 : (j : Int) < (L.length : Int) := by omega
  have b5 : j < L.length := by omega
  go_wp2
  have hT0 : Below w1.heap.size w1 w1.drew := (Below.refl _ _).drew
  refine region_S (fun w' => Below w1.heap.size w1 w') 12 (by kernel_rfl) (by kernel_rfl) ?_
  refine take_S 0 rfl (by kernel_rfl) (by kernel_rfl) hT0 (fun w' hS => by go_simp; rfl) ?_
  refine take_S 1 rfl (by kernel_rfl) (by kernel_rfl) hT0 (fun w' hS => by go_simp; rfl) ?_
  refine take_S 2 (v := .int .i64 (j : Int)) rfl (by kernel_rfl) (by kernel_rfl) hT0 (fun w' hS => by have W1 := b3; have W2 := HWR.out; go_simp) ?_
  refine take_S 3 rfl (by kernel_rfl) (by kernel_rfl) hT0 (fun w' hS => by go_simp; rfl) ?_
  refine take_S 4 rfl (by kernel_rfl) (by kernel_rfl) hT0 (fun w' hS => by go_simp; rfl) ?_
  refine take_S 5 rfl (by kernel_rfl) (by kernel_rfl) hT0 (fun w' hS => by have A0 := (hS.cell (p := ⟨g, o + j * 4, none⟩) hgl1).trans E0.out; have A1 := (hS.cell (p := ⟨g, o + j * 4 + 1, none⟩) hgl1).trans E1.out; go_simp; rfl) ?_
  refine take_S 6 rfl (by kernel_rfl) (by kernel_rfl) hT0 (fun w' hS => by go_simp; rfl) ?_
  refine take_S 7 rfl (by kernel_rfl) (by kernel_rfl) hT0 (fun w' hS => by go_simp; rfl) ?_
  refine take_S 8 rfl (by kernel_rfl) (by kernel_rfl) hT0 (fun w' hS => by go_simp; rfl) ?_
  refine take_S 9 rfl (by kernel_rfl) (by kernel_rfl) hT0 (fun w' hS => by go_simp; rfl) ?_
  refine take_S 10 rfl (by kernel_rfl) (by kernel_rfl) hT0 (fun w' hS => by have A0 := (hS.cell (p := ⟨g, o + (j + 1) * 4, none⟩) hgl1).trans F0.out; have A1 := (hS.cell (p := ⟨g, o + (j + 1) * 4 + 1, none⟩) hgl1).trans F1.out; go_simp; rfl) ?_
  refine carry_S 11 rfl (by kernel_rfl) (by decide) (by kernel_rfl) (fun K hK => ?_)
  go_simp
  refine (RIsLess_any L[j].id.1 L[j + 1].id.1 L[j].id.2 L[j + 1].id.2 _).mono ?_
  rintro e w2 ⟨rfl, hbw2⟩
  have hT1 : Below w1.heap.size w1 w2 := hT0.trans (hbw2.mono hT0.size)
  refine hK _ _ hT1 (forced_S (by kernel_rfl) ?_)
  clear hK K
  try simp only [Act.put, List.getElem_toArray, List.getElem_cons_succ, List.getElem_cons_zero, List.setIfInBounds_toArray, List.set_cons_zero, List.set_cons_succ]
  try simp only [Act.put, List.getElem_toArray, List.getElem_cons_succ, List.getElem_cons_zero, List.setIfInBounds_toArray, List.set_cons_zero, List.set_cons_succ]
  simp only [List.drop_succ_cons, List.drop_zero]
  rw [HLT.out]
  have HB2 := Lib.hid (HS1.out.trans (hT1.mono HS1.out.size))
  clear hT0 hT1 hbw2
  go_wp2
  go_ret
  exact ⟨by rw [HM.out]; rfl, HB2.out⟩
theorem RMarked_any (v : Value) (L : HldL) (hl : L.length ≤ 2 ^ 40) (hL : ∀ x ∈ L, x.text.length ≤ 2 ^ 40) (k : Nat) (hk : k < L.length) (B : Nat) (w : World) (hv : RdL w B v L) (hB : B ≤ w.heap.size) :
    Calls Tryz.prog 91 #[v, .int .i64 (k : Int)] w fun e w' => e = .returned (.int .i64 (markAt L k L[k])) ∧ Below w.heap.size w w' := by
  by_cases hid : idOf L[k].text = L[k].id
  · cases k with
    | zero => exact RMarked_first v L hl hL hk hid B w hv hB
    | succ j =>
      cases hlt : lesser L[j].id L[j + 1].id with
      | true => exact RMarked_next_true v L hl hL j hk hid hlt B w hv hB
      | false => exact RMarked_next_false v L hl hL j hk hid hlt B w hv hB
  · exact RMarked_sum v L hl hL k hk hid B w hv hB
end Go.Proofs.YtpanoplcamdnkaaGreatDoor

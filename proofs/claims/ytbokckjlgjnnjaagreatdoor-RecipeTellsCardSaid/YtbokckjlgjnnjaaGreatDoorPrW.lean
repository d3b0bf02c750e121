/- Walks of print.Number, print.Read. Condition: strconv's two error variables hold errors (Perrs), the tables, MaxLen and ErrText lie as named. -/
import Derived.Test.YtbokckjlgjnnjaaGreatDoorPrV
namespace Go.Proofs.YtbokckjlgjnnjaaGreatDoor
open Go.RowKit Go.Lib

/-- the number of a text without needless signs, of so many bytes at most -/
def numOf (l : Bytes) (m : Nat) : Option Nat := match atoiO l with
  | some v => if l.length ≤ m ∧ 0 ≤ v ∧ itoa v = l then some v.toNat else none
  | none => none
def numVal (l : Bytes) (m : Nat) : Int := ((numOf l m).getD 0 : Nat)
theorem numOf_some {l : Bytes} {m k : Nat} (h : numOf l m = some k) : atoiO l = some (k : Int) ∧ l.length ≤ m ∧ l = decDigits k := by
  unfold numOf at h
  cases hv : atoiO l with
  | none => rw [hv] at h; cases h
  | some v =>
    rw [hv] at h
    simp only at h
    split at h
    · next hc =>
      obtain ⟨h1, h2, h3⟩ := hc
      injection h with h
      subst h
      refine ⟨by rw [show ((v.toNat : Nat) : Int) = v by omega], h1, ?_⟩
      rw [← itoa_nat, show ((v.toNat : Nat) : Int) = v by omega, h3]
    · cases h
theorem numOf_dec (k m : Nat) (hk : k < 10 ^ 18) (hm : (decDigits k).length ≤ m) : numOf (decDigits k) m = some k := by
  unfold numOf
  rw [atoiO_digits _ _ (atoiAll_decDigits k hk)]
  simp only
  rw [if_pos ⟨hm, by omega, itoa_nat k⟩, Int.toNat_natCast]
theorem atoiO_bounds {l : Bytes} {v : Int} (h : atoiO l = some v) : -9223372036854775808 ≤ v ∧ v ≤ 9223372036854775807 := Lib.atoiAll_bounds (atoiO_ok h)
set_option maxHeartbeats 1000000 in
theorem Number_some (t : ByteArray) (ht : t.size ≤ 2 ^ 40) (m k : Nat) (hm : m ≤ 1000) (h : numOf t.data.toList m = some k) (w : World) (htab : Tabs w) :
    Calls Tryz.prog 74 #[.string t, .int .i64 (m : Int)] w fun e w' => e = .returned (.tuple #[.int .i64 (k : Int), .bool true]) ∧ Below w.heap.size w w' := by
  obtain ⟨h1, h2, h3⟩ := numOf_some h
  obtain ⟨b0, b1⟩ := atoiO_bounds h1
  have hz : ¬ (m : Int) < (t.size : Int) := by rw [size_toList]; omega
  have hq : ((bs (itoa (k : Int))).toList == t.toList) = true := by rw [← bs_of t, bs_beq, itoa_nat, ← h3]; simp
  have hq2 := neq_of_beq hq
  have hk0 : ¬ (k : Int) < 0 := by omega
  have H := Lib.hid h1
  have HT := Lib.hid htab
  clear h h1 h2 h3 htab
  go_enter Tryz.func74, Tryz.ntmps74
  go_wp2_with fail
  refine (Atoi_some t ht (k : Int) H.out _).mono ?_
  rintro e w1 ⟨rfl, hb⟩
  have HT1 := Lib.hid (HT.out.below hb)
  go_wp2_with fail
  refine (Itoa_any (k : Int) b0 b1 _ HT1.out).mono ?_
  rintro e w2 ⟨rfl, hb2⟩
  have hb3 := hb.trans (hb2.mono hb.size)
  clear hb hb2
  go_wp2
  go_ret2
  exact ⟨rfl, hb3⟩
set_option maxHeartbeats 1000000 in
theorem Number_none (t : ByteArray) (ht : t.size ≤ 2 ^ 40) (m : Nat) (hm : m ≤ 1000) (h : numOf t.data.toList m = none) (w : World) (htab : Tabs w) (hp : Perrs w) :
    Calls Tryz.prog 74 #[.string t, .int .i64 (m : Int)] w fun e w' => e = .returned (.tuple #[.int .i64 0, .bool false]) ∧ Below w.heap.size w w' := by
  have HT := Lib.hid htab
  have HP := Lib.hid hp
  clear htab hp
  cases hv : atoiO t.data.toList with
  | none =>
    have H := Lib.hid hv
    clear h hv
    go_enter Tryz.func74, Tryz.ntmps74
    go_wp2_with fail
    refine (Atoi_none t ht H.out _ HP.out).mono ?_
    rintro e w1 ⟨x, T, q, rfl, hb⟩
    go_wp2
    go_ret2
    exact ⟨rfl, hb⟩
  | some v =>
    obtain ⟨b0, b1⟩ := atoiO_bounds hv
    have H := Lib.hid hv
    by_cases h1 : t.data.toList.length ≤ m
    · have hz : ¬ (m : Int) < (t.size : Int) := by rw [size_toList]; omega
      by_cases h2 : 0 ≤ v
      · have h3 : itoa v ≠ t.data.toList := fun e => by
          unfold numOf at h; rw [hv] at h; simp only at h
          rw [if_pos ⟨h1, h2, e⟩] at h; cases h
        have hq : ((bs (itoa v)).toList == t.toList) = false := by rw [← bs_of t, bs_beq]; exact decide_eq_false h3
        have hq2 := neq_of_beq hq
        have hk0 : ¬ v < 0 := by omega
        clear h hv h1 h2 h3
        go_enter Tryz.func74, Tryz.ntmps74
        go_wp2_with fail
        refine (Atoi_some t ht v H.out _).mono ?_
        rintro e w1 ⟨rfl, hb⟩
        have HT1 := Lib.hid (HT.out.below hb)
        go_wp2_with fail
        refine (Itoa_any v b0 b1 _ HT1.out).mono ?_
        rintro e w2 ⟨rfl, hb2⟩
        have hb3 := hb.trans (hb2.mono hb.size)
        clear hb hb2
        go_wp2
        go_ret2
        exact ⟨rfl, hb3⟩
      · have hk0 : v < 0 := by omega
        clear h hv h1 h2
        go_enter Tryz.func74, Tryz.ntmps74
        go_wp2_with fail
        refine (Atoi_some t ht v H.out _).mono ?_
        rintro e w1 ⟨rfl, hb⟩
        go_wp2
        go_ret2
        exact ⟨rfl, hb⟩
    · have hz : (m : Int) < (t.size : Int) := by rw [size_toList]; omega
      clear h hv h1
      go_enter Tryz.func74, Tryz.ntmps74
      go_wp2_with fail
      refine (Atoi_some t ht v H.out _).mono ?_
      rintro e w1 ⟨rfl, hb⟩
      go_wp2
      go_ret2
      exact ⟨rfl, hb⟩
/-- strings.Cut at a byte -/
theorem SCut_some (s : ByteArray) (b : UInt8) (hs : s.size ≤ 2 ^ 30) (d r : Bytes) (h : byteCut b s.data.toList = some (d, r)) (w : World) (hm : MaxL w) :
    Calls Tryz.prog 106 #[.string s, .string ⟨#[b]⟩] w fun e w' => e = .returned (.tuple #[.string (bs d), .string (bs r), .bool true]) ∧ Below w.heap.size w w' := by
  obtain ⟨m, hm⟩ := hm
  refine (Tryz.strings_Cut s ⟨#[b]⟩ m w (by omega) hm).mono ?_
  rintro e w' ⟨he, n, hw⟩
  rw [show (⟨#[b]⟩ : ByteArray).data.toList = [b] from rfl, cut_some b _ d r h] at he
  exact ⟨he, by rw [hw]; exact ⟨rfl, rfl, rfl, Nat.le_refl _, fun _ _ => rfl⟩⟩
theorem SCut_none (s : ByteArray) (b : UInt8) (hs : s.size ≤ 2 ^ 30) (h : byteCut b s.data.toList = none) (w : World) (hm : MaxL w) :
    Calls Tryz.prog 106 #[.string s, .string ⟨#[b]⟩] w fun e w' => e = .returned (.tuple #[.string s, .string ⟨#[]⟩, .bool false]) ∧ Below w.heap.size w w' := by
  obtain ⟨m, hm⟩ := hm
  refine (Tryz.strings_Cut s ⟨#[b]⟩ m w (by omega) hm).mono ?_
  rintro e w' ⟨he, n, hw⟩
  rw [show (⟨#[b]⟩ : ByteArray).data.toList = [b] from rfl, cut_none b _ h] at he
  refine ⟨by rw [he], by rw [hw]; exact ⟨rfl, rfl, rfl, Nat.le_refl _, fun _ _ => rfl⟩⟩
/-- an ID's text, read -/
def readId (l : Bytes) : Option (Nat × Nat) := match byteCut 45 l with
  | none => none
  | some (h, d) => match unhexOf h, numOf d 6 with
    | some n, some k => some (n, k)
    | _, _ => none
theorem rd_cells (w : World) (b : Nat) (x y u v : Value) (h0 : w.cell? ⟨b, 0, none⟩ = some x) (h1 : w.cell? ⟨b, 1, none⟩ = some y) :
    ((w.setCell ⟨b, 0, none⟩ u).setCell ⟨b, 1, none⟩ v).cell? ⟨b, 0, none⟩ = some u ∧ ((w.setCell ⟨b, 0, none⟩ u).setCell ⟨b, 1, none⟩ v).cell? ⟨b, 1, none⟩ = some v := by
  have hne : (⟨b, 0, none⟩ : Addr) ≠ ⟨b, 1, none⟩ := by intro h; injection h with _ h; cases h
  have p1 : (w.setCell ⟨b, 0, none⟩ u).cell? ⟨b, 1, none⟩ = some y := (World.cell?_setCell_other _ _ _ _ hne).trans h1
  have p0 : (w.setCell ⟨b, 0, none⟩ u).cell? ⟨b, 0, none⟩ = some u := World.cell?_setCell_same _ _ _ h0
  exact ⟨(World.cell?_setCell_other _ _ _ _ hne.symm).trans p0, World.cell?_setCell_same _ _ _ p1⟩
set_option maxHeartbeats 1000000 in
theorem Read_some (t : ByteArray) (ht : t.size ≤ 2 ^ 30) (n k : Nat) (h : readId t.data.toList = some (n, k)) (w : World) (htab : Tabs w) (hm : MaxL w) :
    Calls Tryz.prog 76 #[.string t] w fun e w' => e = .returned (.tuple #[.agg #[.int .u32 (n : Int), .int .i64 (k : Int)], .nilIface]) ∧ Below w.heap.size w w' := by
  obtain ⟨hh, d, hc, hu, hk⟩ : ∃ hh d, byteCut 45 t.data.toList = some (hh, d) ∧ unhexOf hh = some n ∧ numOf d 6 = some k := by
    unfold readId at h
    split at h
    · cases h
    · next a b hc =>
      split at h
      · next x y hx hy =>
        simp only [Option.some.injEq, Prod.mk.injEq] at h
        obtain ⟨rfl, rfl⟩ := h
        exact ⟨a, b, hc, hx, hy⟩
      · cases h
  obtain ⟨hl, _⟩ := byteCut_some _ _ _ _ hc
  have hsz : (bs hh).size ≤ 2 ^ 40 ∧ (bs d).size ≤ 2 ^ 40 := by
    have := congrArg List.length hl
    rw [← size_toList, List.length_append, List.length_cons] at this
    rw [bs_size, bs_size]; omega
  have HC := Lib.hid hc
  have HU : Hid (unhexOf (bs hh).data.toList = some n) := Lib.hid (by rw [bs_toList]; exact hu)
  have HK : Hid (numOf (bs d).data.toList 6 = some k) := Lib.hid (by rw [bs_toList]; exact hk)
  obtain ⟨hs1, hs2⟩ := hsz
  have hb0 : Below w.heap.size w (w.alloc (.cells #[.int .u32 0, .int .i64 0] 71)) := (Below.refl _ w).alloc (Nat.le_refl _) _
  have HT := Lib.hid (htab.below hb0)
  have HM := Lib.hid (hm.below hb0)
  have hc0 : (w.alloc (.cells #[.int .u32 0, .int .i64 0] 71)).cell? ⟨w.heap.size, 0, none⟩ = some (.int .u32 0) := by rw [World.cell?_alloc_at _ _ _ _ rfl]; rfl
  have hc1 : (w.alloc (.cells #[.int .u32 0, .int .i64 0] 71)).cell? ⟨w.heap.size, 1, none⟩ = some (.int .i64 0) := by rw [World.cell?_alloc_at _ _ _ _ rfl]; rfl
  have hf : ∀ j, (w.alloc (.cells #[.int .u32 0, .int .i64 0] 71)).frozen? ⟨w.heap.size, j, none⟩ = false := fun j => World.frozen?_alloc_new _ _ _ _
  have hz0 : w.heap.size < (w.alloc (.cells #[.int .u32 0, .int .i64 0] 71)).heap.size := by simp
  clear h htab hm hc hl hu hk
  go_enter Tryz.func76, Tryz.ntmps76
  go_wp2_with fail
  generalize w.alloc (.cells #[.int .u32 0, .int .i64 0] 71) = w0 at *
  refine (SCut_some t 45 ht hh d HC.out _ HM.out).mono ?_
  rintro e w1 ⟨rfl, hb1⟩
  have HT1 := Lib.hid (HT.out.below hb1)
  go_wp2_with fail
  refine (PUnhex_some (bs hh) hs1 n HU.out _ HT1.out).mono ?_
  rintro e w2 ⟨rfl, hb2⟩
  have hb3 := hb1.trans (hb2.mono hb1.size)
  have HT2 := Lib.hid (HT.out.below hb3)
  clear hb1 hb2
  go_wp2_with fail
  refine (Number_some (bs d) hs2 6 k (by decide) HK.out _ HT2.out).mono ?_
  rintro e w3 ⟨rfl, hb4⟩
  have hb5 := hb3.trans (hb4.mono hb3.size)
  have d0 := (hb5.cell (p := ⟨w.heap.size, 0, none⟩) hz0).trans hc0
  have d1 := (hb5.cell (p := ⟨w.heap.size, 1, none⟩) hz0).trans hc1
  have f0 : w3.frozen? ⟨w.heap.size, 0, none⟩ = false := (hb5.frozen (p := ⟨w.heap.size, 0, none⟩) hz0).trans (hf 0)
  have f1 : w3.frozen? ⟨w.heap.size, 1, none⟩ = false := (hb5.frozen (p := ⟨w.heap.size, 1, none⟩) hz0).trans (hf 1)
  have hb6 := hb0.trans (hb5.mono hb0.size)
  clear hb3 hb4 hb5 hc0 hc1 hf
  obtain ⟨t0, t1⟩ := rd_cells w3 w.heap.size _ _ (.int .u32 (n : Int)) (.int .i64 (k : Int)) d0 d1
  have hb7 := (hb6.setCell (p := ⟨w.heap.size, 0, none⟩) (Nat.le_refl _) (.int .u32 (n : Int))).setCell (p := ⟨w.heap.size, 1, none⟩) (Nat.le_refl _) (.int .i64 (k : Int))
  clear hb6
  go_wp2
  refine bodyPost_ret (v := .tuple #[.agg #[.int .u32 (n : Int), .int .i64 (k : Int)], .nilIface]) (by simp [results, Tryz.results76, go_sem, t0, t1]) rfl ?_
  exact ⟨rfl, hb7⟩
theorem PUnhex_any (t : ByteArray) (ht : t.size ≤ 2 ^ 40) (w : World) (htab : Tabs w) (hp : Perrs w) :
    Calls Tryz.prog 75 #[.string t] w fun e w' => ∃ x, e = .returned (.tuple #[.int .u32 x, .bool (unhexOf t.data.toList).isSome]) ∧ Below w.heap.size w w' := by
  cases h : unhexOf t.data.toList with
  | none => exact (PUnhex_none t ht h w htab hp).mono fun e w' ⟨he, hb⟩ => ⟨_, he, hb⟩
  | some n => exact (PUnhex_some t ht n h w htab).mono fun e w' ⟨he, hb⟩ => ⟨_, he, hb⟩
theorem Number_any (t : ByteArray) (ht : t.size ≤ 2 ^ 40) (m : Nat) (hm : m ≤ 1000) (w : World) (htab : Tabs w) (hp : Perrs w) :
    Calls Tryz.prog 74 #[.string t, .int .i64 (m : Int)] w fun e w' => ∃ x, e = .returned (.tuple #[.int .i64 x, .bool (numOf t.data.toList m).isSome]) ∧ Below w.heap.size w w' := by
  cases h : numOf t.data.toList m with
  | none => exact (Number_none t ht m hm h w htab hp).mono fun e w' ⟨he, hb⟩ => ⟨_, he, hb⟩
  | some n => exact (Number_some t ht m n hm h w htab).mono fun e w' ⟨he, hb⟩ => ⟨_, he, hb⟩
set_option maxHeartbeats 1000000 in
theorem Read_none (a : Nat → Addr) (t : ByteArray) (ht : t.size ≤ 2 ^ 30) (h : readId t.data.toList = none) (w : World) (htab : Tabs w) (hm : MaxL w) (hp : Perrs w) (hs : SomeS [0] a w) :
    Calls Tryz.prog 76 #[.string t] w fun e w' => e = .returned (.tuple #[.agg #[.int .u32 0, .int .i64 0], sval a 0]) ∧ Below w.heap.size w w' := by
  have hb0 : Below w.heap.size w (w.alloc (.cells #[.int .u32 0, .int .i64 0] 71)) := (Below.refl _ w).alloc (Nat.le_refl _) _
  have HT := Lib.hid (htab.below hb0)
  have HM := Lib.hid (hm.below hb0)
  have HP := Lib.hid (hp.below hb0)
  have HS := Lib.hid (hs.below hb0)
  have hc0 : (w.alloc (.cells #[.int .u32 0, .int .i64 0] 71)).cell? ⟨w.heap.size, 0, none⟩ = some (.int .u32 0) := by rw [World.cell?_alloc_at _ _ _ _ rfl]; rfl
  have hc1 : (w.alloc (.cells #[.int .u32 0, .int .i64 0] 71)).cell? ⟨w.heap.size, 1, none⟩ = some (.int .i64 0) := by rw [World.cell?_alloc_at _ _ _ _ rfl]; rfl
  have hf : ∀ j, (w.alloc (.cells #[.int .u32 0, .int .i64 0] 71)).frozen? ⟨w.heap.size, j, none⟩ = false := fun j => World.frozen?_alloc_new _ _ _ _
  have hz0 : w.heap.size < (w.alloc (.cells #[.int .u32 0, .int .i64 0] 71)).heap.size := by simp
  have hgl : 6 < w.heap.size := World.block_lt_of_cell? w _ (hs 0 (by simp))
  clear htab hm hp hs
  cases hc : byteCut 45 t.data.toList with
  | none =>
    have HC := Lib.hid hc
    clear h hc
    go_enter Tryz.func76, Tryz.ntmps76
    go_wp2_with fail
    generalize w.alloc (.cells #[.int .u32 0, .int .i64 0] 71) = w0 at *
    refine (SCut_none t 45 ht HC.out _ HM.out).mono ?_
    rintro e w1 ⟨rfl, hb1⟩
    have HT1 := Lib.hid (HT.out.below hb1)
    have HP1 := Lib.hid (HP.out.below hb1)
    go_wp2_with fail
    refine (PUnhex_any t (by omega) _ HT1.out HP1.out).mono ?_
    rintro e w2 ⟨x, rfl, hb2⟩
    have hb3 := hb1.trans (hb2.mono hb1.size)
    have HT2 := Lib.hid (HT.out.below hb3)
    have HP2 := Lib.hid (HP.out.below hb3)
    clear hb1 hb2
    generalize (unhexOf t.data.toList).isSome = ok1 at *
    go_wp2_with fail
    refine (Number_any ⟨#[]⟩ (by decide) 6 (by decide) _ HT2.out HP2.out).mono ?_
    rintro e w3 ⟨y, rfl, hb4⟩
    have hb5 := hb3.trans (hb4.mono hb3.size)
    have d0 := (hb5.cell (p := ⟨w.heap.size, 0, none⟩) hz0).trans hc0
    have d1 := (hb5.cell (p := ⟨w.heap.size, 1, none⟩) hz0).trans hc1
    have f0 : w3.frozen? ⟨w.heap.size, 0, none⟩ = false := (hb5.frozen (p := ⟨w.heap.size, 0, none⟩) hz0).trans (hf 0)
    have f1 : w3.frozen? ⟨w.heap.size, 1, none⟩ = false := (hb5.frozen (p := ⟨w.heap.size, 1, none⟩) hz0).trans (hf 1)
    have s0 : w3.cell? ⟨6, 0, none⟩ = some (sval a 0) := (HS.out.below hb5) 0 (by simp)
    unfold sval at s0
    have hb6 := hb0.trans (hb5.mono hb0.size)
    generalize (numOf (⟨#[]⟩ : ByteArray).data.toList 6).isSome = ok2 at *
    clear hb3 hb4 hb5 hc0 hc1 hf
    have hb7 := ((hb6.setCell (p := ⟨w.heap.size, 0, none⟩) (Nat.le_refl _) (.int .u32 0)).setCell (p := ⟨w.heap.size, 1, none⟩) (Nat.le_refl _) (.int .i64 0)).drew
    obtain ⟨t0, t1⟩ := rd_cells w3 w.heap.size _ _ (.int .u32 0) (.int .i64 0) d0 d1
    have t2 : (w3.setCell ⟨w.heap.size, 0, none⟩ (.int .u32 0)).cell? ⟨w.heap.size, 0, none⟩ = some (.int .u32 0) := World.cell?_setCell_same _ _ _ d0
    have hne : ¬ (6 = w.heap.size) := by omega
    clear hb6
    go_wp2
    go_region
    go_wp2
    refine bodyPost_ret (v := .tuple #[.agg #[.int .u32 0, .int .i64 0], .iface 265 (.pointer (some (a 0)))]) (by simp [results, Tryz.results76, go_sem, t0, t1, t2]) rfl ?_
    exact ⟨rfl, hb7⟩
  | some p =>
    obtain ⟨hh, d⟩ := p
    obtain ⟨hl, _⟩ := byteCut_some _ _ _ _ hc
    have hsz : (bs hh).size ≤ 2 ^ 40 ∧ (bs d).size ≤ 2 ^ 40 := by
      have := congrArg List.length hl
      rw [← size_toList, List.length_append, List.length_cons] at this
      rw [bs_size, bs_size]; omega
    obtain ⟨hs1, hs2⟩ := hsz
    have hor : (unhexOf hh).isSome = false ∨ ((unhexOf hh).isSome = true ∧ (numOf d 6).isSome = false) := by
      unfold readId at h
      rw [hc] at h
      cases h1 : unhexOf hh with
      | none => exact .inl rfl
      | some n =>
        cases h2 : numOf d 6 with
        | none => exact .inr ⟨rfl, rfl⟩
        | some k => simp [h1, h2] at h
    have HC := Lib.hid hc
    have HOR := Lib.hid hor
    clear h hc hl hor
    go_enter Tryz.func76, Tryz.ntmps76
    go_wp2_with fail
    generalize w.alloc (.cells #[.int .u32 0, .int .i64 0] 71) = w0 at *
    refine (SCut_some t 45 ht hh d HC.out _ HM.out).mono ?_
    rintro e w1 ⟨rfl, hb1⟩
    have HT1 := Lib.hid (HT.out.below hb1)
    have HP1 := Lib.hid (HP.out.below hb1)
    go_wp2_with fail
    refine (PUnhex_any (bs hh) hs1 _ HT1.out HP1.out).mono ?_
    rintro e w2 ⟨x, rfl, hb2⟩
    have hb3 := hb1.trans (hb2.mono hb1.size)
    have HT2 := Lib.hid (HT.out.below hb3)
    have HP2 := Lib.hid (HP.out.below hb3)
    clear hb1 hb2
    rw [bs_toList]
    generalize (unhexOf hh).isSome = ok1 at *
    go_wp2_with fail
    refine (Number_any (bs d) hs2 6 (by decide) _ HT2.out HP2.out).mono ?_
    rintro e w3 ⟨y, rfl, hb4⟩
    have hb5 := hb3.trans (hb4.mono hb3.size)
    have d0 := (hb5.cell (p := ⟨w.heap.size, 0, none⟩) hz0).trans hc0
    have d1 := (hb5.cell (p := ⟨w.heap.size, 1, none⟩) hz0).trans hc1
    have f0 : w3.frozen? ⟨w.heap.size, 0, none⟩ = false := (hb5.frozen (p := ⟨w.heap.size, 0, none⟩) hz0).trans (hf 0)
    have f1 : w3.frozen? ⟨w.heap.size, 1, none⟩ = false := (hb5.frozen (p := ⟨w.heap.size, 1, none⟩) hz0).trans (hf 1)
    have s0 : w3.cell? ⟨6, 0, none⟩ = some (sval a 0) := (HS.out.below hb5) 0 (by simp)
    unfold sval at s0
    have hb6 := hb0.trans (hb5.mono hb0.size)
    rw [bs_toList]
    generalize (numOf d 6).isSome = ok2 at *
    clear hb3 hb4 hb5 hc0 hc1 hf
    rcases HOR.out with rfl | ⟨rfl, rfl⟩
    · have hb7 := ((hb6.setCell (p := ⟨w.heap.size, 0, none⟩) (Nat.le_refl _) (.int .u32 0)).setCell (p := ⟨w.heap.size, 1, none⟩) (Nat.le_refl _) (.int .i64 0)).drew
      obtain ⟨t0, t1⟩ := rd_cells w3 w.heap.size _ _ (.int .u32 0) (.int .i64 0) d0 d1
      have t2 : (w3.setCell ⟨w.heap.size, 0, none⟩ (.int .u32 0)).cell? ⟨w.heap.size, 0, none⟩ = some (.int .u32 0) := World.cell?_setCell_same _ _ _ d0
      have hne : ¬ (6 = w.heap.size) := by omega
      clear hb6
      go_wp2
      go_region
      go_wp2
      refine bodyPost_ret (v := .tuple #[.agg #[.int .u32 0, .int .i64 0], .iface 265 (.pointer (some (a 0)))]) (by simp [results, Tryz.results76, go_sem, t0, t1, t2]) rfl ?_
      exact ⟨rfl, hb7⟩
    · have hb7 := ((hb6.setCell (p := ⟨w.heap.size, 0, none⟩) (Nat.le_refl _) (.int .u32 0)).setCell (p := ⟨w.heap.size, 1, none⟩) (Nat.le_refl _) (.int .i64 0)).drew
      obtain ⟨t0, t1⟩ := rd_cells w3 w.heap.size _ _ (.int .u32 0) (.int .i64 0) d0 d1
      have t2 : (w3.setCell ⟨w.heap.size, 0, none⟩ (.int .u32 0)).cell? ⟨w.heap.size, 0, none⟩ = some (.int .u32 0) := World.cell?_setCell_same _ _ _ d0
      have hne : ¬ (6 = w.heap.size) := by omega
      clear hb6
      go_wp2
      go_region
      go_wp2
      refine bodyPost_ret (v := .tuple #[.agg #[.int .u32 0, .int .i64 0], .iface 265 (.pointer (some (a 0)))]) (by simp [results, Tryz.results76, go_sem, t0, t1, t2]) rfl ?_
      exact ⟨rfl, hb7⟩
end Go.Proofs.YtbokckjlgjnnjaaGreatDoor

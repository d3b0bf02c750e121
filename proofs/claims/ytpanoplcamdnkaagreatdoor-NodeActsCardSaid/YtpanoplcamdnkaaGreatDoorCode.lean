/- plain.Code by its contract. Condition: the twelve sentinels and the type handle lie as the text lays them (Sents). -/
import Derived.Test.YtpanoplcamdnkaaGreatDoorPrt2
import Derived.Test.YtpanoplcamdnkaaGreatDoorErr1
import Derived.Test.YtpanoplcamdnkaaGreatDoorBse1
namespace Go.Proofs.YtpanoplcamdnkaaGreatDoor
open Go.RowKit

/-- an error of errors.New's make: which sentinel it is, if one -/
structure PErr (a : Nat → Addr) (p : Addr) (m : Option Nat) (w : World) : Prop where
  row : ∃ c t, w.heap[p.block]? = some (.cells c t (0, 0))
  hit : ∀ k, m = some k → k < 12 ∧ p = a k
  miss : m = none → ∀ j, j < 12 → p ≠ a j
theorem PErr.below {a : Nat → Addr} {p : Addr} {m : Option Nat} {w w' : World} (h : PErr a p m w) (hb : Below w.heap.size w w') : PErr a p m w' where
  row := by
    obtain ⟨c, t, hr⟩ := h.row
    exact ⟨c, t, (hb.block _ (lt_of_heap hr)).trans hr⟩
  hit := h.hit
  miss := h.miss
theorem Sents.perr {a : Nat → Addr} {w : World} (h : Sents a w) {k : Nat} (hk : k < 12) : PErr a (a k) (some k) w where
  row := h.row k hk
  hit j hj := by injection hj with hj; subst hj; exact ⟨hk, rfl⟩
  miss hj := by cases hj
theorem PErr.ne {a : Nat → Addr} {p : Addr} {m : Option Nat} {w : World} (h : Sents a w) (hp : PErr a p m w) {j : Nat} (hj : j < 12) (hm : m ≠ some j) : p ≠ a j := by
  cases m with
  | none => exact hp.miss rfl j hj
  | some k =>
    obtain ⟨hk, rfl⟩ := hp.hit k rfl
    exact h.inj k j hk hj (fun e => hm (by rw [e]))
theorem is_p (a : Nat → Addr) (p : Addr) (m : Option Nat) (j : Nat) (hj : j < 12) (w : World) (h : Sents a w) (hp : PErr a p m w) :
    Calls Tryz.prog 129 #[.iface 361 (.pointer (some p)), sval a j] w fun e w' => e = .returned (.bool (m == some j)) ∧ w = w' := by
  by_cases he : m = some j
  · subst he
    obtain ⟨_, rfl⟩ := hp.hit j rfl
    rw [beq_self_eq_true]
    exact (is_same (a j) w).mono fun _ _ ⟨h1, h2⟩ => ⟨h1, h2.symm⟩
  · obtain ⟨c1, t1, h1⟩ := hp.row
    obtain ⟨c2, t2, h2⟩ := h.row j hj
    rw [beq_eq_false_iff_ne.2 he]
    exact (is_other p (a j) c1 c2 t1 t2 w (hp.ne h hj he) h1 h2).mono fun _ _ ⟨h1, h2⟩ => ⟨h1, h2.symm⟩
theorem is_fp (a : Nat → Addr) (b o : Nat) (p : Addr) (m : Option Nat) (j : Nat) (hj : j < 12) (w : World) (h : Sents a w) (hp : PErr a p m w) (hc : w.cell? ⟨b, o + 1, none⟩ = some (.iface 361 (.pointer (some p)))) :
    Calls Tryz.prog 129 #[.iface 134 (.pointer (some ⟨b, o, none⟩)), sval a j] w fun e w' => e = .returned (.bool (m == some j)) ∧ w = w' := by
  by_cases he : m = some j
  · subst he
    obtain ⟨_, rfl⟩ := hp.hit j rfl
    rw [beq_self_eq_true]
    exact (is_fault_same b o (a j) w hc).mono fun _ _ ⟨h1, h2⟩ => ⟨h1, h2.symm⟩
  · obtain ⟨c1, t1, h1⟩ := hp.row
    obtain ⟨c2, t2, h2⟩ := h.row j hj
    rw [beq_eq_false_iff_ne.2 he]
    exact (is_fault_other b o (a j) p c1 c2 t1 t2 w hc (hp.ne h hj he) h1 h2).mono fun _ _ ⟨h1, h2⟩ => ⟨h1, h2.symm⟩
/-- errors.As at a *api.Fault, the target a new variable -/
theorem as_hit_own (e : Addr) (w : World) (hg : w.cell? ⟨12, 0, none⟩ = some (.iface 295 (.agg #[.pointer (some ⟨21, 31, none⟩)]))) :
    Calls Tryz.prog 128 #[.iface 134 (.pointer (some e)), .iface 200 (.pointer (some ⟨w.heap.size, 0, none⟩))] (w.alloc (.cells #[.pointer none] 134)) fun ev w' => ev = .returned (.bool true) ∧ Below w.heap.size w w' ∧ w'.cell? ⟨w.heap.size, 0, none⟩ = some (.pointer (some e)) := by
  have hlt : 12 < w.heap.size := World.block_lt_of_cell? w _ hg
  refine (as_hit e ⟨w.heap.size, 0, none⟩ (.pointer none) _ ((World.cell?_alloc_lt _ _ ⟨12, 0, none⟩ hlt).trans hg) (by rw [World.cell?_alloc_at _ _ _ _ rfl]; rfl) (by rw [World.frozen?_alloc_at _ _ _ _ rfl])).mono fun ev w' ⟨h1, h2⟩ => ⟨h1, ?_, ?_⟩
  · subst h2
    refine ((((((Below.refl _ _).alloc (Nat.le_refl _) _).alloc (by simp) _).alloc (by simp; omega) _).alloc (by simp; omega) _).alloc (by simp; omega) _).setCell (Nat.le_refl _) _
  · subst h2
    refine World.cell?_setCell_same _ _ (u := .pointer none) _ ?_
    rw [World.cell?_alloc_lt _ _ ⟨w.heap.size, 0, none⟩ (by simp; omega), World.cell?_alloc_lt _ _ ⟨w.heap.size, 0, none⟩ (by simp; omega), World.cell?_alloc_lt _ _ ⟨w.heap.size, 0, none⟩ (by simp; omega), World.cell?_alloc_lt _ _ ⟨w.heap.size, 0, none⟩ (by simp), World.cell?_alloc_at _ _ _ _ rfl]; rfl
theorem as_miss_own (e : Addr) (w : World) (hg : w.cell? ⟨12, 0, none⟩ = some (.iface 295 (.agg #[.pointer (some ⟨21, 31, none⟩)]))) :
    Calls Tryz.prog 128 #[.iface 361 (.pointer (some e)), .iface 200 (.pointer (some ⟨w.heap.size, 0, none⟩))] (w.alloc (.cells #[.pointer none] 134)) fun ev w' => ev = .returned (.bool false) ∧ Below w.heap.size w w' := by
  have hlt : 12 < w.heap.size := World.block_lt_of_cell? w _ hg
  refine (as_miss e ⟨w.heap.size, 0, none⟩ (.pointer none) _ ((World.cell?_alloc_lt _ _ ⟨12, 0, none⟩ hlt).trans hg) (by rw [World.cell?_alloc_at _ _ _ _ rfl]; rfl) (by rw [World.frozen?_alloc_at _ _ _ _ rfl])).mono fun ev w' ⟨h1, h2⟩ => ⟨h1, ?_⟩
  subst h2
  exact (((((Below.refl _ _).alloc (Nat.le_refl _) _).alloc (by simp) _).alloc (by simp; omega) _).alloc (by simp; omega) _)
def codeOf : Option Nat → Int
  | some k => (k : Int) + 1
  | none => -1
def SentC (a : Nat → Addr) (w : World) : Prop :=
  w.cell? ⟨5, 0, none⟩ = some (sval a 0) ∧ w.cell? ⟨3, 0, none⟩ = some (sval a 1) ∧ w.cell? ⟨8, 0, none⟩ = some (sval a 2) ∧ w.cell? ⟨9, 0, none⟩ = some (sval a 3) ∧ w.cell? ⟨2, 0, none⟩ = some (sval a 4) ∧ w.cell? ⟨0, 0, none⟩ = some (sval a 5) ∧ w.cell? ⟨1, 0, none⟩ = some (sval a 6) ∧ w.cell? ⟨7, 0, none⟩ = some (sval a 7) ∧ w.cell? ⟨10, 0, none⟩ = some (sval a 8) ∧ w.cell? ⟨4, 0, none⟩ = some (sval a 9) ∧ w.cell? ⟨6, 0, none⟩ = some (sval a 10) ∧ w.cell? ⟨11, 0, none⟩ = some (sval a 11)
theorem Sents.c {a : Nat → Addr} {w : World} (h : Sents a w) : SentC a w :=
  ⟨h.cell 0 (by decide), h.cell 1 (by decide), h.cell 2 (by decide), h.cell 3 (by decide), h.cell 4 (by decide), h.cell 5 (by decide), h.cell 6 (by decide), h.cell 7 (by decide), h.cell 8 (by decide), h.cell 9 (by decide), h.cell 10 (by decide), h.cell 11 (by decide)⟩
theorem code_row (a : Nat → Addr) (w : World) (k : Nat) (hk : k < 12) : (w.alloc (.cells #[.iface 361 (.pointer (some (a 0))), .iface 361 (.pointer (some (a 1))), .iface 361 (.pointer (some (a 2))), .iface 361 (.pointer (some (a 3))), .iface 361 (.pointer (some (a 4))), .iface 361 (.pointer (some (a 5))), .iface 361 (.pointer (some (a 6))), .iface 361 (.pointer (some (a 7))), .iface 361 (.pointer (some (a 8))), .iface 361 (.pointer (some (a 9))), .iface 361 (.pointer (some (a 10))), .iface 361 (.pointer (some (a 11)))] 31)).cell? ⟨w.heap.size, k, none⟩ = some (sval a k) := by
  rw [World.cell?_alloc_at _ _ _ _ rfl]
  match k, hk with
  | 0, _ | 1, _ | 2, _ | 3, _ | 4, _ | 5, _ | 6, _ | 7, _ | 8, _ | 9, _ | 10, _ | 11, _ => rfl
/-- plain.Code of nil -/
theorem Code_nil (w : World) : Calls Tryz.prog 77 #[.nilIface] w fun e w' => e = .returned (.tuple #[.int .i64 0, .int .i64 (-1)]) ∧ w = w' := by
  go_enter Tryz.func77, Tryz.ntmps77
  go_wp2
  go_ret2
  exact ⟨rfl, rfl⟩
set_option maxRecDepth 100000 in
set_option maxHeartbeats 4000000 in
/-- plain.Code of an error of errors.New's make -/
theorem Code_plain (a : Nat → Addr) (p : Addr) (m : Option Nat) (w : World) (h : Sents a w) (hp : PErr a p m w) :
    Calls Tryz.prog 77 #[.iface 361 (.pointer (some p))] w fun e w' => e = .returned (.tuple #[.int .i64 (codeOf m), .int .i64 (-1)]) ∧ Below w.heap.size w w' := by
  have hety := h.ety
  have HS := Lib.hid h
  have HP := Lib.hid hp
  clear h hp
  go_enter Tryz.func77, Tryz.ntmps77
  go_wp2_with fail
  refine (as_miss_own p w hety).mono ?_
  rintro e w1 ⟨rfl, hb1⟩
  have h1 := HS.out.below hb1
  have HC := h1.c
  have H1 := Lib.hid h1
  have HP1 := Lib.hid (HP.out.below hb1)
  clear h1 HS HP hety
  obtain ⟨c0, c1, c2, c3, c4, c5, c6, c7, c8, c9, c10, c11⟩ := HC
  unfold sval at c0 c1 c2 c3 c4 c5 c6 c7 c8 c9 c10 c11
  go_wp2
  clear c0 c1 c2 c3 c4 c5 c6 c7 c8 c9 c10 c11
  have hcell := code_row a w1
  have hb2 : Below w.heap.size w (w1.alloc (.cells #[.iface 361 (.pointer (some (a 0))), .iface 361 (.pointer (some (a 1))), .iface 361 (.pointer (some (a 2))), .iface 361 (.pointer (some (a 3))), .iface 361 (.pointer (some (a 4))), .iface 361 (.pointer (some (a 5))), .iface 361 (.pointer (some (a 6))), .iface 361 (.pointer (some (a 7))), .iface 361 (.pointer (some (a 8))), .iface 361 (.pointer (some (a 9))), .iface 361 (.pointer (some (a 10))), .iface 361 (.pointer (some (a 11)))] 31)) := hb1.alloc hb1.size _
  have H2 := Lib.hid (H1.out.below ((Below.refl w1.heap.size w1).alloc (Nat.le_refl _) (.cells #[.iface 361 (.pointer (some (a 0))), .iface 361 (.pointer (some (a 1))), .iface 361 (.pointer (some (a 2))), .iface 361 (.pointer (some (a 3))), .iface 361 (.pointer (some (a 4))), .iface 361 (.pointer (some (a 5))), .iface 361 (.pointer (some (a 6))), .iface 361 (.pointer (some (a 7))), .iface 361 (.pointer (some (a 8))), .iface 361 (.pointer (some (a 9))), .iface 361 (.pointer (some (a 10))), .iface 361 (.pointer (some (a 11)))] 31)))
  have HP2 := Lib.hid (HP1.out.below ((Below.refl w1.heap.size w1).alloc (Nat.le_refl _) (.cells #[.iface 361 (.pointer (some (a 0))), .iface 361 (.pointer (some (a 1))), .iface 361 (.pointer (some (a 2))), .iface 361 (.pointer (some (a 3))), .iface 361 (.pointer (some (a 4))), .iface 361 (.pointer (some (a 5))), .iface 361 (.pointer (some (a 6))), .iface 361 (.pointer (some (a 7))), .iface 361 (.pointer (some (a 8))), .iface 361 (.pointer (some (a 9))), .iface 361 (.pointer (some (a 10))), .iface 361 (.pointer (some (a 11)))] 31)))
  have HB := Lib.hid hb2
  generalize w1.alloc _ = W2 at *
  have HCL := Lib.hid hcell
  clear hcell hb2 hb1 H1 HP1
  go_loop [3, 30] (fun t i => ∃ k : Nat, k ≤ 12 ∧ t = .int .i64 (-1) ∧ i = .int .i64 k ∧ Hid (∀ j, j < k → m ≠ some j)) (fun _ i => 12 - (RowKit.intOf i).toNat)
  case atStart => exact ⟨0, Nat.zero_le _, rfl, rfl, fun j hj => absurd hj (Nat.not_lt_zero _)⟩
  case round =>
    obtain ⟨k, hk, rfl, rfl, hn⟩ := hrel
    by_cases hlt : k < 12
    · have hc := HCL.out k hlt
      unfold sval at hc
      by_cases hm : m = some k
      · have hq : (m == some k) = true := by rw [hm]; simp
        have HM := Lib.hid hm
        clear hm
        go_wp2_with (go_at_call 129; refine (is_p a p m k hlt _ H2.out HP2.out).mono ?_; rintro e w5 ⟨rfl, rfl⟩; rw [hq])
        go_ret2
        exact ⟨by rw [HM.out]; rfl, HB.out⟩
      · have hq : (m == some k) = false := by simpa using hm
        have HN : Hid (∀ j, j < k + 1 → m ≠ some j) := fun j hj => by
          rcases Nat.lt_or_ge j k with h1 | h1
          · exact hn.out j h1
          · obtain rfl : j = k := by omega
            exact hm
        clear hm
        go_wp2_with (go_at_call 129; refine (is_p a p m k hlt _ H2.out HP2.out).mono ?_; rintro e w5 ⟨rfl, rfl⟩; rw [hq])
        go_round
        case rel => exact ⟨k + 1, hlt, rfl, by go_num, HN⟩
        case measure => simp [RowKit.intOf]; omega
    · obtain rfl : k = 12 := by omega
      have HM : Hid (m = none) := by
        cases hm : m with
        | none => exact Lib.hid rfl
        | some j =>
          have := (HP2.out.hit j hm).1
          exact absurd hm (hn.out j this)
      go_wp2
      go_ret2
      exact ⟨by rw [HM.out]; rfl, HB.out⟩
set_option maxRecDepth 100000 in
set_option maxHeartbeats 4000000 in
/-- plain.Code of a fault over such an error -/
theorem Code_fault (a : Nat → Addr) (b o : Nat) (t : Int) (p : Addr) (m : Option Nat) (w : World) (h : Sents a w) (hp : PErr a p m w) (hc0 : w.cell? ⟨b, o, none⟩ = some (.int .i64 t)) (hc1 : w.cell? ⟨b, o + 1, none⟩ = some (.iface 361 (.pointer (some p)))) :
    Calls Tryz.prog 77 #[.iface 134 (.pointer (some ⟨b, o, none⟩))] w fun e w' => e = .returned (.tuple #[.int .i64 (codeOf m), .int .i64 t]) ∧ Below w.heap.size w w' := by
  have hety := h.ety
  have HS := Lib.hid h
  have HP := Lib.hid hp
  clear h hp
  go_enter Tryz.func77, Tryz.ntmps77
  go_wp2_with fail
  refine (as_hit_own ⟨b, o, none⟩ w hety).mono ?_
  rintro e w1 ⟨rfl, hb1, hptr⟩
  have hlt0 : b < w.heap.size := World.block_lt_of_cell? w _ hc0
  have d0 := (hb1.cell (p := ⟨b, o, none⟩) hlt0).trans hc0
  have d1 := (hb1.cell (p := ⟨b, o + 1, none⟩) hlt0).trans hc1
  clear hc0 hc1
  have h1 := HS.out.below hb1
  have HC := h1.c
  have H1 := Lib.hid h1
  have HP1 := Lib.hid (HP.out.below hb1)
  clear h1 HS HP hety
  obtain ⟨c0, c1, c2, c3, c4, c5, c6, c7, c8, c9, c10, c11⟩ := HC
  unfold sval at c0 c1 c2 c3 c4 c5 c6 c7 c8 c9 c10 c11
  go_wp2
  clear c0 c1 c2 c3 c4 c5 c6 c7 c8 c9 c10 c11
  have hcell := code_row a w1
  have hb2 : Below w.heap.size w (w1.alloc (.cells #[.iface 361 (.pointer (some (a 0))), .iface 361 (.pointer (some (a 1))), .iface 361 (.pointer (some (a 2))), .iface 361 (.pointer (some (a 3))), .iface 361 (.pointer (some (a 4))), .iface 361 (.pointer (some (a 5))), .iface 361 (.pointer (some (a 6))), .iface 361 (.pointer (some (a 7))), .iface 361 (.pointer (some (a 8))), .iface 361 (.pointer (some (a 9))), .iface 361 (.pointer (some (a 10))), .iface 361 (.pointer (some (a 11)))] 31)) := hb1.alloc hb1.size _
  have H2 := Lib.hid (H1.out.below ((Below.refl w1.heap.size w1).alloc (Nat.le_refl _) (.cells #[.iface 361 (.pointer (some (a 0))), .iface 361 (.pointer (some (a 1))), .iface 361 (.pointer (some (a 2))), .iface 361 (.pointer (some (a 3))), .iface 361 (.pointer (some (a 4))), .iface 361 (.pointer (some (a 5))), .iface 361 (.pointer (some (a 6))), .iface 361 (.pointer (some (a 7))), .iface 361 (.pointer (some (a 8))), .iface 361 (.pointer (some (a 9))), .iface 361 (.pointer (some (a 10))), .iface 361 (.pointer (some (a 11)))] 31)))
  have HP2 := Lib.hid (HP1.out.below ((Below.refl w1.heap.size w1).alloc (Nat.le_refl _) (.cells #[.iface 361 (.pointer (some (a 0))), .iface 361 (.pointer (some (a 1))), .iface 361 (.pointer (some (a 2))), .iface 361 (.pointer (some (a 3))), .iface 361 (.pointer (some (a 4))), .iface 361 (.pointer (some (a 5))), .iface 361 (.pointer (some (a 6))), .iface 361 (.pointer (some (a 7))), .iface 361 (.pointer (some (a 8))), .iface 361 (.pointer (some (a 9))), .iface 361 (.pointer (some (a 10))), .iface 361 (.pointer (some (a 11)))] 31)))
  have HB := Lib.hid hb2
  have hlt1 : b < w1.heap.size := World.block_lt_of_cell? w1 _ d1
  have HD := Lib.hid ((((Below.refl w1.heap.size w1).alloc (Nat.le_refl _) (.cells #[.iface 361 (.pointer (some (a 0))), .iface 361 (.pointer (some (a 1))), .iface 361 (.pointer (some (a 2))), .iface 361 (.pointer (some (a 3))), .iface 361 (.pointer (some (a 4))), .iface 361 (.pointer (some (a 5))), .iface 361 (.pointer (some (a 6))), .iface 361 (.pointer (some (a 7))), .iface 361 (.pointer (some (a 8))), .iface 361 (.pointer (some (a 9))), .iface 361 (.pointer (some (a 10))), .iface 361 (.pointer (some (a 11)))] 31)).cell (p := ⟨b, o + 1, none⟩) hlt1).trans d1)
  generalize w1.alloc _ = W2 at *
  have HCL := Lib.hid hcell
  clear hcell hb2 hb1 H1 HP1 d0 d1 hptr
  go_loop [3, 30] (fun tv i => ∃ k : Nat, k ≤ 12 ∧ tv = .int .i64 t ∧ i = .int .i64 k ∧ Hid (∀ j, j < k → m ≠ some j)) (fun _ i => 12 - (RowKit.intOf i).toNat)
  case atStart => exact ⟨0, Nat.zero_le _, rfl, rfl, fun j hj => absurd hj (Nat.not_lt_zero _)⟩
  case round =>
    obtain ⟨k, hk, rfl, rfl, hn⟩ := hrel
    by_cases hlt : k < 12
    · have hc := HCL.out k hlt
      unfold sval at hc
      by_cases hm : m = some k
      · have hq : (m == some k) = true := by rw [hm]; simp
        have HM := Lib.hid hm
        clear hm
        go_wp2_with (go_at_call 129; refine (is_fp a b o p m k hlt _ H2.out HP2.out HD.out).mono ?_; rintro e w5 ⟨rfl, rfl⟩; rw [hq])
        go_ret2
        exact ⟨by rw [HM.out]; rfl, HB.out⟩
      · have hq : (m == some k) = false := by simpa using hm
        have HN : Hid (∀ j, j < k + 1 → m ≠ some j) := fun j hj => by
          rcases Nat.lt_or_ge j k with h1 | h1
          · exact hn.out j h1
          · obtain rfl : j = k := by omega
            exact hm
        clear hm
        go_wp2_with (go_at_call 129; refine (is_fp a b o p m k hlt _ H2.out HP2.out HD.out).mono ?_; rintro e w5 ⟨rfl, rfl⟩; rw [hq])
        go_round
        case rel => exact ⟨k + 1, hlt, rfl, by go_num, HN⟩
        case measure => simp [RowKit.intOf]; omega
    · obtain rfl : k = 12 := by omega
      have HM : Hid (m = none) := by
        cases hm : m with
        | none => exact Lib.hid rfl
        | some j =>
          have := (HP2.out.hit j hm).1
          exact absurd hm (hn.out j this)
      go_wp2
      go_ret2
      exact ⟨by rw [HM.out]; rfl, HB.out⟩
end Go.Proofs.YtpanoplcamdnkaaGreatDoor

/- Walk of owned. Condition: the sentinels that are read, and the library's tables, lie as named (OwnW). -/
import Derived.Test.YtpacalklcdlhoaaGreatDoorOwnE
import Derived.Test.YtpacalklcdlhoaaGreatDoorOwnF
import Derived.Test.YtpacalklcdlhoaaGreatDoorPrR
import Derived.Test.YtpacalklcdlhoaaGreatDoorSame
namespace Go.Proofs.YtpacalklcdlhoaaGreatDoor
open Go.RowKit Go.Lib

structure OwnW (a : Nat → Addr) (w : World) : Prop where
  s : SomeS [1, 2, 4, 5, 7] a w
  t : Tabs w
theorem OwnW.below {a : Nat → Addr} {w w' : World} (h : OwnW a w) (hb : Below w.heap.size w w') : OwnW a w' := ⟨h.s.below hb, h.t.below hb⟩
theorem OwnW.sub {a : Nat → Addr} {w : World} (h : OwnW a w) (ks : List Nat) (hk : ∀ k ∈ ks, k ∈ [1, 2, 4, 5, 7]) : SomeS ks a w := fun k hm => h.s k (hk k hm)
theorem Rd_lit (w : World) (l : List Int) (hl : l.length ≤ 2 ^ 40) : Rd (w.alloc (.cells (l.map VI').toArray 3)) (w.alloc (.cells (l.map VI').toArray 3)).heap.size (.slice (some ⟨w.heap.size, 0, none⟩) l.length l.length) (l.map VI') := by
  have h := World.ownsRow_lit (base := w.heap.size) (e := 3) (size := 1) w (l.map VI').toArray l.length (Nat.le_refl _) (by unfold maxLen; omega) (by simp)
  exact Rd.own h
theorem Of_any' (a : Nat → Addr) (v : Value) (l : List Int) (p : Nat) (len : Int) (hp : p < 4294967296) (h0 : -9223372036854775808 ≤ len) (h1 : len ≤ 9223372036854775807) (B : Nat) (w : World) (hv : Rd w B v (l.map VI')) (hl : l.length ≤ 2 ^ 40) (hB : B ≤ w.heap.size) (h : OwnW a w) :
    Calls Tryz.prog 11 #[v, .agg #[.int .u32 (p : Int), .int .i64 len]] w fun e w' => ∃ r, e = .returned (.tuple #[.int .i64 (ofRes p len l), r]) ∧ EV a r (ofErr l len).1 (ofErr l len).2 w' ∧ Below w.heap.size w w' :=
  Of_any a v l p len hp h0 h1 B w hv hl hB (h.sub _ (by decide)) h.t
theorem bestOf_one (f : Int → Nat) (n : Int) : bestOf f [n] = n := by unfold bestOf bestStep; simp
set_option maxRecDepth 100000 in
set_option maxHeartbeats 1000000 in
theorem owned_any (a : Nat → Addr) (w : World) (h : OwnW a w) :
    Calls Tryz.prog 5 #[] w fun e w' => e = .returned (.bool true) ∧ Below w.heap.size w w' := by
  have hb0 : Below w.heap.size w (w.alloc (.cells #[.int .i64 3] 3)) := (Below.refl _ w).alloc (Nat.le_refl _) _
  have hr0 : Rd (w.alloc (.cells #[.int .i64 3] 3)) (w.alloc (.cells #[.int .i64 3] 3)).heap.size (.slice (some ⟨w.heap.size, 0, none⟩) 1 1) ([3].map VI') := Rd_lit w [3] (by decide)
  have H0 := Lib.hid (h.below hb0)
  have HR0 := Lib.hid hr0
  have e1 : (ofErr [3] 1).1 = 0 := by decide
  have e2 : Hid (ofRes (prOf [97]) 1 [3] = 3) := Lib.hid (by rw [ofRes_ok e1, bestOf_one])
  have e3 : (joinErr [3] 1).1 = 0 := by decide
  have e4 : joinRes [3] 1 = [1, 3] := by rw [joinRes_ok e3]; decide
  have E1 := Lib.hid e1
  have E3 := Lib.hid e3
  have E4 := Lib.hid e4
  clear h hr0 e1 e3 e4
  go_enter Tryz.func5, Tryz.ntmps5
  go_wp2_with fail
  generalize w.alloc (.cells #[.int .i64 3] 3) = w0 at *
  refine (IDOf_any ⟨#[97]⟩ _ (by decide)).mono ?_
  rintro e w1 ⟨rfl, hb1⟩
  have H1 := Lib.hid (H0.out.below hb1)
  have HR1 := Lib.hid (HR0.out.below hb1)
  have hz1 := hb1.size
  have hB1 := hb0.trans (hb1.mono hb0.size)
  clear hb0 hb1
  go_wp2_with fail
  refine (Of_any' a _ [3] (prOf [97]) 1 (prOf_lt _) (by decide) (by decide) w0.heap.size w1 HR1.out (by decide) hz1 H1.out).mono ?_
  rintro e w2 ⟨r, rfl, hr, hb2⟩
  obtain ⟨rfl, _⟩ := hr.nil E1.out
  rw [e2.out]
  have hB2 := hB1.trans (hb2.mono hB1.size)
  have hB3 := hB2.alloc hB2.size (.cells #[.int .i64 3] 3)
  have H2 := Lib.hid ((H1.out.below hb2).below ((Below.refl _ w2).alloc (Nat.le_refl _) (.cells #[.int .i64 3] 3)))
  have HR2 : Hid (Rd (w2.alloc (.cells #[.int .i64 3] 3)) (w2.alloc (.cells #[.int .i64 3] 3)).heap.size (.slice (some ⟨w2.heap.size, 0, none⟩) 1 1) ([3].map VI')) := Rd_lit w2 [3] (by decide)
  clear hr hB1 hB2 hb2
  go_wp2_with fail
  generalize w2.alloc (.cells #[.int .i64 3] 3) = w3 at *
  refine (Join_any a _ [3] 1 w3.heap.size w3 HR2.out (by decide) (Nat.le_refl _) (H2.out.sub _ (by decide))).mono ?_
  rintro e w4 ⟨v4, r, rfl, hr, hr4, hb4⟩
  obtain ⟨rfl, _⟩ := hr.nil E3.out
  rw [E4.out] at hr4
  have HR4 := Lib.hid hr4
  have hB4 := hB3.trans (hb4.mono hB3.size)
  have hB5 := hB4.alloc hB4.size (.cells #[.int .i64 1, .int .i64 3] 3)
  have HR5 : Hid (Rd (w4.alloc (.cells #[.int .i64 1, .int .i64 3] 3)) (w4.alloc (.cells #[.int .i64 1, .int .i64 3] 3)).heap.size (.slice (some ⟨w4.heap.size, 0, none⟩) 2 2) ([1, 3].map VZ)) := Rd_lit w4 [1, 3] (by decide)
  have HR6 := Lib.hid ((HR4.out.below ((Below.refl w4.heap.size w4).alloc (Nat.le_refl _) (.cells #[.int .i64 1, .int .i64 3] 3))).more (by simp : w4.heap.size ≤ (w4.alloc (.cells #[.int .i64 1, .int .i64 3] 3)).heap.size))
  clear hr hr4 hb4
  go_wp2_with fail
  generalize w4.alloc (.cells #[.int .i64 1, .int .i64 3] 3) = w5 at *
  refine (SameInts_any _ _ [1, 3] [1, 3] w5.heap.size w5 HR6.out HR5.out (by decide) (by decide)).mono ?_
  rintro e w6 ⟨rfl, q, rfl⟩
  have hB6 := below_drewN hB5 q
  go_wp2
  go_ret
  exact ⟨rfl, hB6⟩

end Go.Proofs.YtpacalklcdlhoaaGreatDoor

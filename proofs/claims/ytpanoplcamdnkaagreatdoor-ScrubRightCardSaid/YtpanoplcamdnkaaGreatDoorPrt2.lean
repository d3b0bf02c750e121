/- PrT, PlainC, Sents, Ev, Atoi, PrV, PrW, PrL in one text. Conditions: as each part says. -/
import Derived.Test.YtpanoplcamdnkaaGreatDoorPrt1
import Derived.Test.YtpanoplcamdnkaaGreatDoorPlainN
import Derived.Lib.ItoaLen
import Derived.Test.YtpanoplcamdnkaaGreatDoorBse1
import Derived.Lib.IndexMore
import Derived.Lib.Index
import Derived.Test.YtpanoplcamdnkaaGreatDoorChecked
import Derived.WalkKit
import Derived.Below
import Derived.Lib.Hide
import Derived.Test.YtpanoplcamdnkaaGreatDoorShelf
import Derived.Test.YtpanoplcamdnkaaGreatDoorPlainA
import Derived.Lib.AtoiErrMem
import Derived.Lib.AtoiTie
/- Walks of print.Hex, strconv.Itoa, print.Text, print.ID. Condition: the library's tables lie as the text lays them (Tabs). -/
namespace Go.Proofs.YtpanoplcamdnkaaGreatDoor
open Go.RowKit Go.Lib

theorem Itoa_any (n : Int) (h0 : -9223372036854775808 ≤ n) (h1 : n ≤ 9223372036854775807) (w : World) (h : Tabs w) :
    Calls Tryz.prog 75 #[.int .i64 n] w fun e w' => e = .returned (.string (bs (itoa n))) ∧ Below w.heap.size w w' :=
  (Tryz.strconv_Itoa n h0 h1 w h.tab).mono fun e w' ⟨he, k, os, hw⟩ => ⟨he, by rw [hw]; exact Lib.below_grow _ _ (Nat.le_refl _) _ _⟩
theorem cat_bs (a b : Bytes) : bs a ++ bs b = bs (a ++ b) := by
  apply ba_ext
  rw [bs_toList, show (bs a ++ bs b).data.toList = (bs a).data.toList ++ (bs b).data.toList by simp, bs_toList, bs_toList]
theorem repeatL_zero (c : Nat) : repeatL [48] c = List.replicate c 48 := by
  induction c with
  | zero => rfl
  | succ c ih => rw [repeatL, ih]; rfl
theorem Repeat0_any (c : Nat) (hc : c ≤ 8) (w : World) :
    Calls Tryz.prog 175 #[.string ⟨#[48]⟩, .int .i64 (c : Int)] w fun e w' => e = .returned (.string (bs (List.replicate c 48))) ∧ Below w.heap.size w w' :=
  (Tryz.strings_Repeat ⟨#[48]⟩ c _ (by omega) (by rw [show (⟨#[48]⟩ : ByteArray).size = 1 from rfl]; omega)).mono fun e w' ⟨he, hb⟩ => ⟨by rw [he, ← repeatL_zero]; rfl, hb⟩
theorem Hex_any (n : Nat) (hn : n < 4294967296) (w : World) (h : Tabs w) :
    Calls Tryz.prog 126 #[.int .u32 (n : Int)] w fun e w' => e = .returned (.string (bs (hex8 n))) ∧ Below w.heap.size w w' := by
  have HT := Lib.hid h
  clear h
  go_enter Tryz.func126, Tryz.ntmps126
  go_wp2_with fail
  refine (FormatUint_any n hn _ HT.out.db).mono ?_
  rintro e w1 ⟨L, h1, h2, h3, rfl, hb⟩
  have HQ := Lib.hid (hex8_of n L h3 h2)
  have hsz : ((bs (hexL n L)).size : Int) = (L : Int) := by rw [bs_size, hexL_length]
  go_wp2_with fail
  rw [show (8 - (L : Int)) = ((8 - L : Nat) : Int) by omega]
  refine (Repeat0_any (8 - L) (by omega) _).mono ?_
  rintro e w2 ⟨rfl, hb2⟩
  have hz2 : (bs (List.replicate (8 - L) 48)).size = 8 - L := by rw [bs_size, List.length_replicate]
  have hb3 := hb.trans (hb2.mono hb.size)
  clear hb hb2
  go_wp2
  go_ret
  exact ⟨by rw [← HQ.out, ← cat_bs]; rfl, hb3⟩
def idText (p : Nat) (l : Int) : Bytes := if l < 0 then [] else hex8 p ++ 45 :: itoa l
theorem Text_any (p : Nat) (l : Int) (hp : p < 4294967296) (h0 : -9223372036854775808 ≤ l) (h1 : l ≤ 9223372036854775807) (w : World) (h : Tabs w) :
    Calls Tryz.prog 74 #[.agg #[.int .u32 (p : Int), .int .i64 l]] w fun e w' => e = .returned (.string (bs (idText p l))) ∧ Below w.heap.size w w' := by
  have HT := Lib.hid h
  clear h
  by_cases hl : l < 0
  · have HQ : Hid (idText p l = []) := Lib.hid (by unfold idText; rw [if_pos hl])
    have hb := (Below.refl w.heap.size w).alloc (Nat.le_refl _) (.cells #[.int .u32 (p : Int), .int .i64 l] 47)
    go_enter Tryz.func74, Tryz.ntmps74
    go_wp2
    go_ret
    exact ⟨by rw [HQ.out]; rfl, hb⟩
  · have HQ : Hid (idText p l = hex8 p ++ 45 :: itoa l) := Lib.hid (by unfold idText; rw [if_neg hl])
    have hz1 : (bs (hex8 p)).size = 8 := by rw [bs_size]; unfold hex8; rw [hexL_length]
    have hz3 : (bs (hex8 p) ++ ⟨#[45]⟩).size = 9 := by rw [ByteArray.size_append, hz1]; rfl
    have hz2 : (bs (itoa l)).size ≤ 21 := by rw [bs_size]; exact itoa_length_le l h0 h1
    have hb := (Below.refl w.heap.size w).alloc (Nat.le_refl _) (.cells #[.int .u32 (p : Int), .int .i64 l] 47)
    have c0 : (w.alloc (.cells #[.int .u32 (p : Int), .int .i64 l] 47)).cell? ⟨w.heap.size, 0, none⟩ = some (.int .u32 (p : Int)) := by rw [World.cell?_alloc_at _ _ _ _ rfl]; rfl
    have c1 : (w.alloc (.cells #[.int .u32 (p : Int), .int .i64 l] 47)).cell? ⟨w.heap.size, 1, none⟩ = some (.int .i64 l) := by rw [World.cell?_alloc_at _ _ _ _ rfl]; rfl
    have hlt : w.heap.size < (w.alloc (.cells #[.int .u32 (p : Int), .int .i64 l] 47)).heap.size := by simp
    go_enter Tryz.func74, Tryz.ntmps74
    go_wp2_with fail
    generalize w.alloc (.cells #[.int .u32 (p : Int), .int .i64 l] 47) = w1 at *
    have HT1 := Lib.hid (HT.out.below hb)
    have cc : ∀ w' : World, Below w1.heap.size w1 w' → w'.cell? ⟨w.heap.size, 0, none⟩ = some (.int .u32 (p : Int)) ∧ w'.cell? ⟨w.heap.size, 1, none⟩ = some (.int .i64 l) := fun w' h => ⟨(h.cell (p := ⟨w.heap.size, 0, none⟩) hlt).trans c0, (h.cell (p := ⟨w.heap.size, 1, none⟩) hlt).trans c1⟩
    have CC := Lib.hid cc
    clear cc c0 c1
    have hB0 : Below w1.heap.size w1 w1.drew := (Below.refl _ w1).drew
    refine region_S (fun w' => Below w1.heap.size w1 w') 7 (by kernel_rfl) (by kernel_rfl) ?_
    refine take_S 0 rfl (by kernel_rfl) rfl hB0 (fun w' hS => by go_simp; rfl) ?_
    refine take_S 1 rfl (by kernel_rfl) rfl hB0 (fun w' hS => by obtain ⟨h1, h2⟩ := CC.out w' hS; go_simp; rfl) ?_
    refine take_S 4 rfl (by kernel_rfl) rfl hB0 (fun w' hS => by go_simp; rfl) ?_
    refine take_S 5 rfl (by kernel_rfl) rfl hB0 (fun w' hS => by obtain ⟨h1, h2⟩ := CC.out w' hS; go_simp; rfl) ?_
    refine carry_S 2 rfl (by kernel_rfl) (by decide) rfl (fun K hK => ?_)
    go_simp
    refine (Hex_any p hp _ (HT1.out.below hB0)).mono ?_
    rintro e w2 ⟨rfl, hb2⟩
    have hB2 : Below w1.heap.size w1 w2 := hB0.trans (hb2.mono hB0.size)
    refine hK _ _ hB2 ?_
    clear hK K
    try simp only [Act.put, List.setIfInBounds_toArray, List.set_cons_zero, List.set_cons_succ]
    refine take_S 3 rfl (by kernel_rfl) rfl hB2 (fun w' hS => by go_simp; rfl) ?_
    refine carry_S 6 rfl (by kernel_rfl) (by decide) (by kernel_rfl) (fun K hK => ?_)
    go_simp
    refine (Itoa_any l h0 h1 _ (HT1.out.below hB2)).mono ?_
    rintro e w3 ⟨rfl, hb3⟩
    have hB3 : Below w1.heap.size w1 w3 := hB2.trans (hb3.mono hB2.size)
    refine hK _ _ hB3 (forced_S (by kernel_rfl) ?_)
    clear hK K
    try simp only [Act.put, List.setIfInBounds_toArray, List.set_cons_zero, List.set_cons_succ]
    simp only [List.drop_succ_cons, List.drop_zero]
    go_wp2
    go_ret
    refine ⟨?_, hb.trans (hB3.mono hb.size)⟩
    rw [HQ.out, show hex8 p ++ 45 :: itoa l = (hex8 p ++ [45]) ++ itoa l by simp, ← cat_bs, ← cat_bs]
    rfl
theorem ID_any (s : ByteArray) (w : World) (hs : s.size ≤ maxLen) :
    Calls Tryz.prog 24 #[.string s] w fun e w' => e = .returned (.agg #[.int .u32 (prOf s.data.toList : Nat), .int .i64 (s.size : Int)]) ∧ Below w.heap.size w w' := by
  go_enter Tryz.func24, Tryz.ntmps24
  go_wp2_with fail
  refine (POf_any s _ hs).mono ?_
  rintro e w1 ⟨rfl, rfl⟩
  have hb := (Below.refl w.heap.size w).alloc (Nat.le_refl _) (.cells #[.int .u32 0, .int .i64 0] 47)
  have hb1 := fun x => ((Below.refl w.heap.size w).alloc (Nat.le_refl _) (.cells #[.int .u32 ((prOf s.data.toList : Nat) : Int), x] 47))
  go_wp2
  go_returns
  exact ⟨rfl, hb1 _⟩
end Go.Proofs.YtpanoplcamdnkaaGreatDoor
/- Plain words: a text cut at a byte, as the library's Cut does. No program in sight. No conditions. -/
namespace Go.Proofs.YtpanoplcamdnkaaGreatDoor
open Go.Lib

def byteCut (b : UInt8) : List UInt8 → Option (List UInt8 × List UInt8)
  | [] => none
  | c :: l => if c = b then some ([], l) else (byteCut b l).map fun p => (c :: p.1, p.2)
theorem byteCut_of (b : UInt8) (d r : List UInt8) (h : b ∉ d) : byteCut b (d ++ b :: r) = some (d, r) := by
  induction d with
  | nil => simp [byteCut]
  | cons c d ih =>
    have hc : c ≠ b := fun e => h (by simp [e])
    have hd : b ∉ d := fun e => h (List.mem_cons_of_mem _ e)
    simp [byteCut, hc, ih hd]
theorem byteCut_some (b : UInt8) (l d r : List UInt8) (h : byteCut b l = some (d, r)) : l = d ++ b :: r ∧ b ∉ d := by
  induction l generalizing d with
  | nil => simp [byteCut] at h
  | cons c l ih =>
    simp only [byteCut] at h
    split at h
    · next hc =>
      simp only [Option.some.injEq, Prod.mk.injEq] at h
      obtain ⟨rfl, rfl⟩ := h
      simp [hc]
    · next hc =>
      cases hb : byteCut b l with
      | none => simp [hb] at h
      | some p =>
        obtain ⟨d', r'⟩ := p
        simp only [hb, Option.map_some, Option.some.injEq, Prod.mk.injEq] at h
        obtain ⟨rfl, rfl⟩ := h
        obtain ⟨h1, h2⟩ := ih d' hb
        refine ⟨by rw [h1]; rfl, fun e => ?_⟩
        rcases List.mem_cons.1 e with e | e
        · exact hc e.symm
        · exact h2 e
theorem byteCut_none (b : UInt8) (l : List UInt8) : byteCut b l = none ↔ b ∉ l := by
  induction l with
  | nil => simp [byteCut]
  | cons c l ih =>
    simp only [byteCut]
    by_cases hc : c = b
    · simp [hc]
    · rw [if_neg hc]
      simp [ih, Ne.symm hc, show ¬ b = c from fun e => hc e.symm]
theorem index_cons (b c : UInt8) (l : List UInt8) : index (c :: l) [b] = if c = b then 0 else if index l [b] = -1 then -1 else index l [b] + 1 := by
  by_cases hc : c = b
  · subst hc; simp [index, List.isPrefixOf]
  · have : ([b].isPrefixOf (c :: l)) = false := by
      have hbc : (b == c) = false := by rw [beq_eq_false_iff_ne]; exact fun e => hc e.symm
      simp only [List.isPrefixOf, hbc, Bool.false_and]
    rw [index, this]
    simp [hc]
theorem index_none (b : UInt8) (l : List UInt8) (h : b ∉ l) : index l [b] = -1 := by
  induction l with
  | nil => rfl
  | cons c l ih =>
    have hc : c ≠ b := fun e => h (by simp [e])
    rw [index_cons, if_neg hc, ih (fun e => h (List.mem_cons_of_mem _ e)), if_pos rfl]
theorem index_hit (b : UInt8) (d r : List UInt8) (h : b ∉ d) : index (d ++ b :: r) [b] = (d.length : Int) := by
  induction d with
  | nil => rw [List.nil_append, index_cons, if_pos rfl]; rfl
  | cons c d ih =>
    have hc : c ≠ b := fun e => h (by simp [e])
    rw [List.cons_append, index_cons, if_neg hc, ih (fun e => h (List.mem_cons_of_mem _ e)), if_neg (by omega), List.length_cons]
    omega
theorem cut_some (b : UInt8) (l d r : List UInt8) (h : byteCut b l = some (d, r)) : cut l [b] = (d, r, true) := by
  obtain ⟨rfl, hb⟩ := byteCut_some b l d r h
  unfold cut
  rw [index_hit b d r hb, if_pos (by omega), Int.toNat_natCast]
  simp
theorem cut_none (b : UInt8) (l : List UInt8) (h : byteCut b l = none) : cut l [b] = (l, [], false) := by
  unfold cut
  rw [index_none b l ((byteCut_none b l).1 h), if_neg (by omega)]
end Go.Proofs.YtpanoplcamdnkaaGreatDoor
/- The twelve sentinels' variables and the type handle's, kept under whatever leaves old memory alone. No conditions. -/
namespace Go.Proofs.YtpanoplcamdnkaaGreatDoor
open Go.RowKit

/-- The variables' numbers, in the order of plain.Code's list. -/
def sv (k : Nat) : Nat := [5, 3, 8, 9, 2, 0, 1, 7, 10, 4, 6, 11].getD k 0
/-- Sentinel k's value. -/
def sval (a : Nat → Addr) (k : Nat) : Value := .iface 361 (.pointer (some (a k)))
structure Sents (a : Nat → Addr) (w : World) : Prop where
  cell : ∀ k, k < 12 → w.cell? ⟨sv k, 0, none⟩ = some (sval a k)
  row : ∀ k, k < 12 → ∃ c t, w.heap[(a k).block]? = some (.cells c t (0, 0))
  inj : ∀ i j, i < 12 → j < 12 → i ≠ j → a i ≠ a j
  ety : w.cell? ⟨12, 0, none⟩ = some (.iface 295 (.agg #[.pointer (some ⟨21, 31, none⟩)]))
theorem lt_of_heap {w : World} {k : Nat} {o : Obj} (h : w.heap[k]? = some o) : k < w.heap.size := by
  rcases Nat.lt_or_ge k w.heap.size with h' | h'
  · exact h'
  · simp [Array.getElem?_eq_none h'] at h
theorem Sents.below {a : Nat → Addr} {w w' : World} (h : Sents a w) (hb : Below w.heap.size w w') : Sents a w' where
  cell k hk := (hb.cell (p := ⟨sv k, 0, none⟩) (World.block_lt_of_cell? w _ (h.cell k hk))).trans (h.cell k hk)
  row k hk := by
    obtain ⟨c, t, hr⟩ := h.row k hk
    exact ⟨c, t, (hb.block _ (lt_of_heap hr)).trans hr⟩
  inj := h.inj
  ety := (hb.cell (p := ⟨12, 0, none⟩) (World.block_lt_of_cell? w _ h.ety)).trans h.ety
end Go.Proofs.YtpanoplcamdnkaaGreatDoor
/- An error value by number and place, told by its form alone: nil, a sentinel, a fault over a sentinel. No conditions. -/
namespace Go.Proofs.YtpanoplcamdnkaaGreatDoor
open Go.RowKit

/-- these sentinels' variables hold what a names -/
def SomeS (ks : List Nat) (a : Nat → Addr) (w : World) : Prop := ∀ k ∈ ks, w.cell? ⟨sv k, 0, none⟩ = some (sval a k)
theorem SomeS.below {ks : List Nat} {a : Nat → Addr} {w w' : World} (h : SomeS ks a w) (hb : Below w.heap.size w w') : SomeS ks a w' := fun k hk =>
  (hb.cell (p := ⟨sv k, 0, none⟩) (World.block_lt_of_cell? w _ (h k hk))).trans (h k hk)
theorem Sents.someS {a : Nat → Addr} {w : World} (h : Sents a w) (ks : List Nat) (hk : ∀ k ∈ ks, k < 12) : SomeS ks a w := fun k hm => h.cell k (hk k hm)
/-- v is an error of number c and place t -/
def EV (a : Nat → Addr) (v : Value) (c t : Int) (w : World) : Prop :=
  (v = .nilIface ∧ c = 0 ∧ t = -1) ∨ (∃ k : Nat, k < 12 ∧ v = sval a k ∧ c = (k : Int) + 1 ∧ t = -1) ∨
    ∃ k b o : Nat, k < 12 ∧ v = .iface 134 (.pointer (some ⟨b, o, none⟩)) ∧ c = (k : Int) + 1 ∧ w.cell? ⟨b, o, none⟩ = some (.int .i64 t) ∧ w.cell? ⟨b, o + 1, none⟩ = some (sval a k)
theorem EV.none (a : Nat → Addr) (w : World) : EV a .nilIface 0 (-1) w := .inl ⟨rfl, rfl, rfl⟩
theorem EV.sent (a : Nat → Addr) (w : World) (k : Nat) (hk : k < 12) : EV a (sval a k) ((k : Int) + 1) (-1) w := .inr (.inl ⟨k, hk, rfl, rfl, rfl⟩)
theorem EV.fault {a : Nat → Addr} {w : World} (k : Nat) (hk : k < 12) {b o : Nat} {t : Int} (h0 : w.cell? ⟨b, o, .none⟩ = some (.int .i64 t)) (h1 : w.cell? ⟨b, o + 1, .none⟩ = some (sval a k)) :
    EV a (.iface 134 (.pointer (some ⟨b, o, .none⟩))) ((k : Int) + 1) t w := .inr (.inr ⟨k, b, o, hk, rfl, rfl, h0, h1⟩)
theorem EV.nil {a : Nat → Addr} {v : Value} {c t : Int} {w : World} (h : EV a v c t w) (hc : c = 0) : v = .nilIface ∧ t = -1 := by
  rcases h with ⟨h, _, h2⟩ | ⟨k, _, _, h, _⟩ | ⟨k, b, o, _, _, h, _⟩
  · exact ⟨h, h2⟩
  · omega
  · omega
theorem EV.some {a : Nat → Addr} {v : Value} {c t : Int} {w : World} (h : EV a v c t w) (hc : c ≠ 0) : ∃ T p, v = .iface T p := by
  rcases h with ⟨_, h, _⟩ | ⟨k, _, h, _⟩ | ⟨k, b, o, _, h, _⟩
  · exact absurd h hc
  · exact ⟨_, _, h⟩
  · exact ⟨_, _, h⟩
theorem EV.below {a : Nat → Addr} {v : Value} {c t : Int} {w w' : World} (h : EV a v c t w) (hb : Below w.heap.size w w') : EV a v c t w' := by
  rcases h with h | h | ⟨k, b, o, hk, h1, h2, h3, h4⟩
  · exact .inl h
  · exact .inr (.inl h)
  · exact .inr (.inr ⟨k, b, o, hk, h1, h2, (hb.cell (p := ⟨b, o, .none⟩) (World.block_lt_of_cell? w _ h3)).trans h3, (hb.cell (p := ⟨b, o + 1, .none⟩) (World.block_lt_of_cell? w _ h4)).trans h4⟩)
theorem EV_mk (a : Nat → Addr) (w : World) (k : Nat) (hk : k < 12) (t : Int) (tg : TypeId) : EV a (.iface 134 (.pointer (some ⟨w.heap.size, 0, none⟩))) ((k : Int) + 1) t (w.alloc (.cells #[.int .i64 t, .iface 361 (.pointer (some (a k)))] tg)) :=
  EV.fault k hk (by rw [World.cell?_alloc_at _ _ _ _ rfl]; rfl) (by rw [World.cell?_alloc_at _ _ _ _ rfl]; rfl)
/-- an error that is none or a sentinel: it stands in whatever world -/
def ES (a : Nat → Addr) (v : Value) (c : Int) : Prop := (v = .nilIface ∧ c = 0) ∨ ∃ k : Nat, k < 12 ∧ v = sval a k ∧ c = (k : Int) + 1
theorem ES.none (a : Nat → Addr) : ES a .nilIface 0 := .inl ⟨rfl, rfl⟩
theorem ES.sent (a : Nat → Addr) (k : Nat) (hk : k < 12) : ES a (sval a k) ((k : Int) + 1) := .inr ⟨k, hk, rfl, rfl⟩
theorem ES.ev {a : Nat → Addr} {v : Value} {c : Int} (h : ES a v c) (w : World) : EV a v c (-1) w := by
  rcases h with ⟨rfl, rfl⟩ | ⟨k, hk, rfl, rfl⟩
  · exact EV.none a w
  · exact EV.sent a w k hk
theorem ES.nil {a : Nat → Addr} {v : Value} {c : Int} (h : ES a v c) (hc : c = 0) : v = .nilIface ∧ True := by
  rcases h with ⟨h, _⟩ | ⟨k, _, _, h⟩
  · exact ⟨h, trivial⟩
  · omega
theorem ES.some {a : Nat → Addr} {v : Value} {c : Int} (h : ES a v c) (hc : c ≠ 0) : ∃ T p, v = .iface T p := by
  rcases h with ⟨_, h⟩ | ⟨k, _, h, _⟩
  · exact absurd h hc
  · exact ⟨_, _, h⟩
end Go.Proofs.YtpanoplcamdnkaaGreatDoor
/- strconv.Atoi by two contracts: a number, or an error. Condition: strconv's two error variables hold errors (Perrs). -/
namespace Go.Proofs.YtpanoplcamdnkaaGreatDoor
open Go.RowKit Go.Lib

structure Perrs (w : World) : Prop where
  s : ∃ T q, w.cell? ⟨15, 0, none⟩ = some (.iface T q)
  r : ∃ T q, w.cell? ⟨16, 0, none⟩ = some (.iface T q)
theorem Perrs.below {w w' : World} (h : Perrs w) (hb : Below w.heap.size w w') : Perrs w' where
  s := by obtain ⟨T, q, hs⟩ := h.s; exact ⟨T, q, (hb.cell (p := ⟨15, 0, none⟩) (World.block_lt_of_cell? w _ hs)).trans hs⟩
  r := by obtain ⟨T, q, hs⟩ := h.r; exact ⟨T, q, (hb.cell (p := ⟨16, 0, none⟩) (World.block_lt_of_cell? w _ hs)).trans hs⟩
/-- the number that a text is, if Atoi finds one -/
def atoiO (l : List UInt8) : Option Int := match atoiAll l with
  | .ok v => some v
  | _ => none
theorem atoiO_digits (l : List UInt8) (n : Nat) (h : atoiAll l = .ok (n : Int)) : atoiO l = some (n : Int) := by unfold atoiO; rw [h]
theorem atoiO_ok {l : List UInt8} {v : Int} (h : atoiO l = some v) : atoiAll l = .ok v := by
  unfold atoiO at h
  cases hA : atoiAll l with
  | ok x => rw [hA] at h; injection h with h; rw [h]
  | _ => rw [hA] at h; cases h
theorem Atoi_some (s : ByteArray) (hs : s.size ≤ 2 ^ 40) (v : Int) (h : atoiO s.data.toList = some v) (w : World) :
    Calls Tryz.prog 172 #[.string s] w fun e w' => e = .returned (.tuple #[.int .i64 v, .nilIface]) ∧ Below w.heap.size w w' :=
  (Tryz.strconv_Atoi_ok s (by omega) v (atoiO_ok h) w).mono fun e w' ⟨he, hw⟩ => ⟨he, by
    rcases hw with hw | ⟨t, hw⟩
    · rw [hw]; exact Below.refl _ _
    · rw [hw]; exact Lib.bytesWorld_below w _ t⟩
theorem Atoi_none (s : ByteArray) (hs : s.size ≤ 2 ^ 40) (h : atoiO s.data.toList = none) (w : World) (hp : Perrs w) :
    Calls Tryz.prog 172 #[.string s] w fun e w' => ∃ x T q, e = .returned (.tuple #[.int .i64 x, .iface T q]) ∧ Below w.heap.size w w' := by
  obtain ⟨T1, q1, h1⟩ := hp.s
  obtain ⟨T2, q2, h2⟩ := hp.r
  have hcase : atoiAll s.data.toList = NumEnd.ofOption (none : Option Int) ∨ atoiAll s.data.toList = .range := by
    unfold atoiO at h
    cases hA : atoiAll s.data.toList with
    | ok v => rw [hA] at h; cases h
    | range => exact .inr rfl
    | _ => exact .inl rfl
  rcases hcase with hA | hA
  · exact (Any.strconv_Atoi_syntax Tryz.laysC172 s (by omega) hA (.iface T1 q1) w h1 (.inr ⟨_, _, rfl⟩)).mono fun e w' ⟨N, he, _, _, hb⟩ => ⟨_, _, _, he, hb⟩
  · exact (Tryz.strconv_Atoi_range s (by omega) hA (.iface T2 q2) w h2 (.inr ⟨_, _, rfl⟩)).mono fun e w' ⟨N, he, _, _, hb⟩ => ⟨_, _, _, he, hb⟩
end Go.Proofs.YtpanoplcamdnkaaGreatDoor
/- Walks of strconv.ParseUint (base 16), print.Unhex, strconv.Atoi, print.Number, print.Read. Condition: strconv's two error variables hold errors (Perrs), the tables and ErrText lie as named. -/
namespace Go.Proofs.YtpanoplcamdnkaaGreatDoor
open Go.RowKit Go.Lib

theorem ParseUint_ok (t : ByteArray) (ht : t.size ≤ 2 ^ 40) (n : Nat) (h : parseHex t.data.toList = .ok n) (w : World) :
    Calls Tryz.prog 220 #[.string t, .int .i64 16, .int .i64 32] w fun e w' => e = .returned (.tuple #[.int .u64 (n : Int), .nilIface]) ∧ Below w.heap.size w w' := by
  have H := Lib.hid h
  clear h
  go_enter Tryz.func220, Tryz.ntmps220
  go_wp2_with fail
  refine (IParseUint_16 t ht _).mono ?_
  rintro e w1 ⟨x, r, rfl, hp, hb⟩
  rcases hp with ⟨m, h1, rfl, rfl⟩ | ⟨h1, _, _⟩ | ⟨h1, _, _⟩
  · have hm : m = n := by rw [H.out] at h1; injection h1 with h1; exact h1.symm
    subst hm
    clear h1
    go_wp2
    go_ret2
    exact ⟨rfl, hb⟩
  · rw [H.out] at h1; cases h1
  · rw [H.out] at h1; cases h1
theorem ParseUint_bad (t : ByteArray) (ht : t.size ≤ 2 ^ 40) (h : ∀ n, parseHex t.data.toList ≠ .ok n) (w : World) (hp : Perrs w) :
    Calls Tryz.prog 220 #[.string t, .int .i64 16, .int .i64 32] w fun e w' => ∃ x T q, e = .returned (.tuple #[.int .u64 x, .iface T q]) ∧ Below w.heap.size w w' := by
  have H := Lib.hid h
  have HP := Lib.hid hp
  clear h hp
  go_enter Tryz.func220, Tryz.ntmps220
  go_wp2_with fail
  refine (IParseUint_16 t ht _).mono ?_
  rintro e w1 ⟨x, r, rfl, hp, hb⟩
  have HP1 := HP.out.below hb
  rcases hp with ⟨m, h1, rfl, rfl⟩ | ⟨h1, rfl, rfl⟩ | ⟨h1, rfl, rfl⟩
  · exact absurd h1 (H.out m)
  · obtain ⟨T, q, hs⟩ := HP1.s
    have HS := Lib.hid hs
    clear h1 hs HP1
    go_wp2_with fail
    refine (Tryz.strconv_toError_syntax _ t _ _ _ _ (by omega) HS.out (.inr ⟨_, _, rfl⟩)).mono ?_
    rintro e w2 ⟨N, rfl, _, _, hb2⟩
    have hb3 := hb.trans (hb2.mono hb.size)
    clear hb hb2
    go_wp2
    go_ret2
    exact ⟨_, _, _, rfl, hb3⟩
  · obtain ⟨T, q, hs⟩ := HP1.r
    have HS := Lib.hid hs
    clear h1 hs HP1
    go_wp2_with fail
    refine (Tryz.strconv_toError_range _ t _ _ _ _ (by omega) HS.out (.inr ⟨_, _, rfl⟩)).mono ?_
    rintro e w2 ⟨N, rfl, _, _, hb2⟩
    have hb3 := hb.trans (hb2.mono hb.size)
    clear hb hb2
    go_wp2
    go_ret2
    exact ⟨_, _, _, rfl, hb3⟩
theorem neq_of_beq {a b : ByteArray} {x : Bool} (h : (a.toList == b.toList) = x) : (a.toList != b.toList) = !x := by rw [bne, h]
theorem PUnhex_some (t : ByteArray) (ht : t.size ≤ 2 ^ 40) (n : Nat) (h : unhexOf t.data.toList = some n) (w : World) (htab : Tabs w) :
    Calls Tryz.prog 171 #[.string t] w fun e w' => e = .returned (.tuple #[.int .u32 (n : Int), .bool true]) ∧ Below w.heap.size w w' := by
  obtain ⟨hn, ht8⟩ := unhexOf_some h
  have hpx : parseHex t.data.toList = .ok n := by rw [ht8]; exact parseHex_hex8 n hn
  have hq : ((bs (hex8 n)).toList == t.toList) = true := by
    rw [← bs_of t, bs_beq, ht8]; simp
  have hq2 := neq_of_beq hq
  have H := Lib.hid hpx
  have HT := Lib.hid htab
  clear h ht8 hpx htab
  go_enter Tryz.func171, Tryz.ntmps171
  go_wp2_with fail
  refine (ParseUint_ok t ht n H.out _).mono ?_
  rintro e w1 ⟨rfl, hb⟩
  have HT1 := Lib.hid (HT.out.below hb)
  go_wp2_with fail
  refine (Hex_any n hn _ HT1.out).mono ?_
  rintro e w2 ⟨rfl, hb2⟩
  have hb3 := hb.trans (hb2.mono hb.size)
  clear hb hb2
  go_wp2
  go_ret2
  exact ⟨rfl, hb3⟩
theorem PUnhex_none (t : ByteArray) (ht : t.size ≤ 2 ^ 40) (h : unhexOf t.data.toList = none) (w : World) (htab : Tabs w) (hp : Perrs w) :
    Calls Tryz.prog 171 #[.string t] w fun e w' => e = .returned (.tuple #[.int .u32 0, .bool false]) ∧ Below w.heap.size w w' := by
  have HT := Lib.hid htab
  have HP := Lib.hid hp
  clear htab hp
  by_cases hok : ∃ n, parseHex t.data.toList = .ok n
  · obtain ⟨n, hpx⟩ := hok
    have hn := parseHex_lt hpx
    have hne : hex8 n ≠ t.data.toList := fun e => by
      unfold unhexOf at h
      rw [hpx] at h
      simp [e] at h
    have hq : ((bs (hex8 n)).toList == t.toList) = false := by
      rw [← bs_of t, bs_beq]; exact decide_eq_false hne
    have hq2 := neq_of_beq hq
    have H := Lib.hid hpx
    clear h hpx hne
    go_enter Tryz.func171, Tryz.ntmps171
    go_wp2_with fail
    refine (ParseUint_ok t ht n H.out _).mono ?_
    rintro e w1 ⟨rfl, hb⟩
    have HT1 := Lib.hid (HT.out.below hb)
    go_wp2_with fail
    refine (Hex_any n hn _ HT1.out).mono ?_
    rintro e w2 ⟨rfl, hb2⟩
    have hb3 := hb.trans (hb2.mono hb.size)
    clear hb hb2
    go_wp2
    go_ret2
    exact ⟨rfl, hb3⟩
  · have H := Lib.hid (fun n e => hok ⟨n, e⟩ : ∀ n, parseHex t.data.toList ≠ .ok n)
    clear h hok
    go_enter Tryz.func171, Tryz.ntmps171
    go_wp2_with fail
    refine (ParseUint_bad t ht H.out _ HP.out).mono ?_
    rintro e w1 ⟨x, T, q, rfl, hb⟩
    go_wp2
    go_ret2
    exact ⟨rfl, hb⟩
end Go.Proofs.YtpanoplcamdnkaaGreatDoor
/- Walks of print.Number, print.Read. Condition: strconv's two error variables hold errors (Perrs), the tables, MaxLen and ErrText lie as named. -/
namespace Go.Proofs.YtpanoplcamdnkaaGreatDoor
open Go.RowKit Go.Lib

/-- the number of a text without needless signs, of so many bytes at most -/
def numOf (l : Bytes) (m : Nat) : Option Nat := match atoiO l with
  | some v => if l.length ≤ m ∧ 0 ≤ v ∧ itoa v = l then some v.toNat else none
  | none => none
def numVal (l : Bytes) (m : Nat) : Int := ((numOf l m).getD 0 : Nat)
theorem numOf_some {l : Bytes} {m k : Nat} (h : numOf l m = some k) : atoiO l = some (k : Int) ∧ l.length ≤ m ∧ l = decDigits k := by
  unfold numOf at h
  cases hv : atoiO l with
  | none => rw [hv] at h; cases h
  | some v =>
    rw [hv] at h
    simp only at h
    split at h
    · next hc =>
      obtain ⟨h1, h2, h3⟩ := hc
      injection h with h
      subst h
      refine ⟨by rw [show ((v.toNat : Nat) : Int) = v by omega], h1, ?_⟩
      rw [← itoa_nat, show ((v.toNat : Nat) : Int) = v by omega, h3]
    · cases h
theorem numOf_dec (k m : Nat) (hk : k < 10 ^ 18) (hm : (decDigits k).length ≤ m) : numOf (decDigits k) m = some k := by
  unfold numOf
  rw [atoiO_digits _ _ (atoiAll_decDigits k hk)]
  simp only
  rw [if_pos ⟨hm, by omega, itoa_nat k⟩, Int.toNat_natCast]
theorem atoiO_bounds {l : Bytes} {v : Int} (h : atoiO l = some v) : -9223372036854775808 ≤ v ∧ v ≤ 9223372036854775807 := Lib.atoiAll_bounds (atoiO_ok h)
set_option maxHeartbeats 1000000 in
theorem Number_some (t : ByteArray) (ht : t.size ≤ 2 ^ 40) (m k : Nat) (hm : m ≤ 1000) (h : numOf t.data.toList m = some k) (w : World) (htab : Tabs w) :
    Calls Tryz.prog 124 #[.string t, .int .i64 (m : Int)] w fun e w' => e = .returned (.tuple #[.int .i64 (k : Int), .bool true]) ∧ Below w.heap.size w w' := by
  obtain ⟨h1, h2, h3⟩ := numOf_some h
  obtain ⟨b0, b1⟩ := atoiO_bounds h1
  have hz : ¬ (m : Int) < (t.size : Int) := by rw [size_toList]; omega
  have hq : ((bs (itoa (k : Int))).toList == t.toList) = true := by rw [← bs_of t, bs_beq, itoa_nat, ← h3]; simp
  have hq2 := neq_of_beq hq
  have hk0 : ¬ (k : Int) < 0 := by omega
  have H := Lib.hid h1
  have HT := Lib.hid htab
  clear h h1 h2 h3 htab
  go_enter Tryz.func124, Tryz.ntmps124
  go_wp2_with fail
  refine (Atoi_some t ht (k : Int) H.out _).mono ?_
  rintro e w1 ⟨rfl, hb⟩
  have HT1 := Lib.hid (HT.out.below hb)
  go_wp2_with fail
  refine (Itoa_any (k : Int) b0 b1 _ HT1.out).mono ?_
  rintro e w2 ⟨rfl, hb2⟩
  have hb3 := hb.trans (hb2.mono hb.size)
  clear hb hb2
  go_wp2
  go_ret2
  exact ⟨rfl, hb3⟩
set_option maxHeartbeats 1000000 in
theorem Number_none (t : ByteArray) (ht : t.size ≤ 2 ^ 40) (m : Nat) (hm : m ≤ 1000) (h : numOf t.data.toList m = none) (w : World) (htab : Tabs w) (hp : Perrs w) :
    Calls Tryz.prog 124 #[.string t, .int .i64 (m : Int)] w fun e w' => e = .returned (.tuple #[.int .i64 0, .bool false]) ∧ Below w.heap.size w w' := by
  have HT := Lib.hid htab
  have HP := Lib.hid hp
  clear htab hp
  cases hv : atoiO t.data.toList with
  | none =>
    have H := Lib.hid hv
    clear h hv
    go_enter Tryz.func124, Tryz.ntmps124
    go_wp2_with fail
    refine (Atoi_none t ht H.out _ HP.out).mono ?_
    rintro e w1 ⟨x, T, q, rfl, hb⟩
    go_wp2
    go_ret2
    exact ⟨rfl, hb⟩
  | some v =>
    obtain ⟨b0, b1⟩ := atoiO_bounds hv
    have H := Lib.hid hv
    by_cases h1 : t.data.toList.length ≤ m
    · have hz : ¬ (m : Int) < (t.size : Int) := by rw [size_toList]; omega
      by_cases h2 : 0 ≤ v
      · have h3 : itoa v ≠ t.data.toList := fun e => by
          unfold numOf at h; rw [hv] at h; simp only at h
          rw [if_pos ⟨h1, h2, e⟩] at h; cases h
        have hq : ((bs (itoa v)).toList == t.toList) = false := by rw [← bs_of t, bs_beq]; exact decide_eq_false h3
        have hq2 := neq_of_beq hq
        have hk0 : ¬ v < 0 := by omega
        clear h hv h1 h2 h3
        go_enter Tryz.func124, Tryz.ntmps124
        go_wp2_with fail
        refine (Atoi_some t ht v H.out _).mono ?_
        rintro e w1 ⟨rfl, hb⟩
        have HT1 := Lib.hid (HT.out.below hb)
        go_wp2_with fail
        refine (Itoa_any v b0 b1 _ HT1.out).mono ?_
        rintro e w2 ⟨rfl, hb2⟩
        have hb3 := hb.trans (hb2.mono hb.size)
        clear hb hb2
        go_wp2
        go_ret2
        exact ⟨rfl, hb3⟩
      · have hk0 : v < 0 := by omega
        clear h hv h1 h2
        go_enter Tryz.func124, Tryz.ntmps124
        go_wp2_with fail
        refine (Atoi_some t ht v H.out _).mono ?_
        rintro e w1 ⟨rfl, hb⟩
        go_wp2
        go_ret2
        exact ⟨rfl, hb⟩
    · have hz : (m : Int) < (t.size : Int) := by rw [size_toList]; omega
      clear h hv h1
      go_enter Tryz.func124, Tryz.ntmps124
      go_wp2_with fail
      refine (Atoi_some t ht v H.out _).mono ?_
      rintro e w1 ⟨rfl, hb⟩
      go_wp2
      go_ret2
      exact ⟨rfl, hb⟩
/-- strings.Cut at a byte -/
theorem SCut_some (s : ByteArray) (b : UInt8) (hs : s.size ≤ 2 ^ 30) (d r : Bytes) (h : byteCut b s.data.toList = some (d, r)) (w : World) (hm : MaxL w) :
    Calls Tryz.prog 122 #[.string s, .string ⟨#[b]⟩] w fun e w' => e = .returned (.tuple #[.string (bs d), .string (bs r), .bool true]) ∧ Below w.heap.size w w' := by
  obtain ⟨m, hm⟩ := hm
  refine (Tryz.strings_Cut s ⟨#[b]⟩ m w (by omega) hm).mono ?_
  rintro e w' ⟨he, n, hw⟩
  rw [show (⟨#[b]⟩ : ByteArray).data.toList = [b] from rfl, cut_some b _ d r h] at he
  exact ⟨he, by rw [hw]; exact ⟨rfl, rfl, rfl, Nat.le_refl _, fun _ _ => rfl⟩⟩
theorem SCut_none (s : ByteArray) (b : UInt8) (hs : s.size ≤ 2 ^ 30) (h : byteCut b s.data.toList = none) (w : World) (hm : MaxL w) :
    Calls Tryz.prog 122 #[.string s, .string ⟨#[b]⟩] w fun e w' => e = .returned (.tuple #[.string s, .string ⟨#[]⟩, .bool false]) ∧ Below w.heap.size w w' := by
  obtain ⟨m, hm⟩ := hm
  refine (Tryz.strings_Cut s ⟨#[b]⟩ m w (by omega) hm).mono ?_
  rintro e w' ⟨he, n, hw⟩
  rw [show (⟨#[b]⟩ : ByteArray).data.toList = [b] from rfl, cut_none b _ h] at he
  refine ⟨by rw [he], by rw [hw]; exact ⟨rfl, rfl, rfl, Nat.le_refl _, fun _ _ => rfl⟩⟩
/-- an ID's text, read -/
def readId (l : Bytes) : Option (Nat × Nat) := match byteCut 45 l with
  | none => none
  | some (h, d) => match unhexOf h, numOf d 6 with
    | some n, some k => some (n, k)
    | _, _ => none
theorem rd_cells (w : World) (b : Nat) (x y u v : Value) (h0 : w.cell? ⟨b, 0, none⟩ = some x) (h1 : w.cell? ⟨b, 1, none⟩ = some y) :
    ((w.setCell ⟨b, 0, none⟩ u).setCell ⟨b, 1, none⟩ v).cell? ⟨b, 0, none⟩ = some u ∧ ((w.setCell ⟨b, 0, none⟩ u).setCell ⟨b, 1, none⟩ v).cell? ⟨b, 1, none⟩ = some v := by
  have hne : (⟨b, 0, none⟩ : Addr) ≠ ⟨b, 1, none⟩ := by intro h; injection h with _ h; cases h
  have p1 : (w.setCell ⟨b, 0, none⟩ u).cell? ⟨b, 1, none⟩ = some y := (World.cell?_setCell_other _ _ _ _ hne).trans h1
  have p0 : (w.setCell ⟨b, 0, none⟩ u).cell? ⟨b, 0, none⟩ = some u := World.cell?_setCell_same _ _ _ h0
  exact ⟨(World.cell?_setCell_other _ _ _ _ hne.symm).trans p0, World.cell?_setCell_same _ _ _ p1⟩
set_option maxHeartbeats 1000000 in
theorem Read_some (t : ByteArray) (ht : t.size ≤ 2 ^ 30) (n k : Nat) (h : readId t.data.toList = some (n, k)) (w : World) (htab : Tabs w) (hm : MaxL w) :
    Calls Tryz.prog 123 #[.string t] w fun e w' => e = .returned (.tuple #[.agg #[.int .u32 (n : Int), .int .i64 (k : Int)], .nilIface]) ∧ Below w.heap.size w w' := by
  obtain ⟨hh, d, hc, hu, hk⟩ : ∃ hh d, byteCut 45 t.data.toList = some (hh, d) ∧ unhexOf hh = some n ∧ numOf d 6 = some k := by
    unfold readId at h
    split at h
    · cases h
    · next a b hc =>
      split at h
      · next x y hx hy =>
        simp only [Option.some.injEq, Prod.mk.injEq] at h
        obtain ⟨rfl, rfl⟩ := h
        exact ⟨a, b, hc, hx, hy⟩
      · cases h
  obtain ⟨hl, _⟩ := byteCut_some _ _ _ _ hc
  have hsz : (bs hh).size ≤ 2 ^ 40 ∧ (bs d).size ≤ 2 ^ 40 := by
    have := congrArg List.length hl
    rw [← size_toList, List.length_append, List.length_cons] at this
    rw [bs_size, bs_size]; omega
  have HC := Lib.hid hc
  have HU : Hid (unhexOf (bs hh).data.toList = some n) := Lib.hid (by rw [bs_toList]; exact hu)
  have HK : Hid (numOf (bs d).data.toList 6 = some k) := Lib.hid (by rw [bs_toList]; exact hk)
  obtain ⟨hs1, hs2⟩ := hsz
  have hb0 : Below w.heap.size w (w.alloc (.cells #[.int .u32 0, .int .i64 0] 47)) := (Below.refl _ w).alloc (Nat.le_refl _) _
  have HT := Lib.hid (htab.below hb0)
  have HM := Lib.hid (hm.below hb0)
  have hc0 : (w.alloc (.cells #[.int .u32 0, .int .i64 0] 47)).cell? ⟨w.heap.size, 0, none⟩ = some (.int .u32 0) := by rw [World.cell?_alloc_at _ _ _ _ rfl]; rfl
  have hc1 : (w.alloc (.cells #[.int .u32 0, .int .i64 0] 47)).cell? ⟨w.heap.size, 1, none⟩ = some (.int .i64 0) := by rw [World.cell?_alloc_at _ _ _ _ rfl]; rfl
  have hf : ∀ j, (w.alloc (.cells #[.int .u32 0, .int .i64 0] 47)).frozen? ⟨w.heap.size, j, none⟩ = false := fun j => World.frozen?_alloc_new _ _ _ _
  have hz0 : w.heap.size < (w.alloc (.cells #[.int .u32 0, .int .i64 0] 47)).heap.size := by simp
  clear h htab hm hc hl hu hk
  go_enter Tryz.func123, Tryz.ntmps123
  go_wp2_with fail
  generalize w.alloc (.cells #[.int .u32 0, .int .i64 0] 47) = w0 at *
  refine (SCut_some t 45 ht hh d HC.out _ HM.out).mono ?_
  rintro e w1 ⟨rfl, hb1⟩
  have HT1 := Lib.hid (HT.out.below hb1)
  go_wp2_with fail
  refine (PUnhex_some (bs hh) hs1 n HU.out _ HT1.out).mono ?_
  rintro e w2 ⟨rfl, hb2⟩
  have hb3 := hb1.trans (hb2.mono hb1.size)
  have HT2 := Lib.hid (HT.out.below hb3)
  clear hb1 hb2
  go_wp2_with fail
  refine (Number_some (bs d) hs2 6 k (by decide) HK.out _ HT2.out).mono ?_
  rintro e w3 ⟨rfl, hb4⟩
  have hb5 := hb3.trans (hb4.mono hb3.size)
  have d0 := (hb5.cell (p := ⟨w.heap.size, 0, none⟩) hz0).trans hc0
  have d1 := (hb5.cell (p := ⟨w.heap.size, 1, none⟩) hz0).trans hc1
  have f0 : w3.frozen? ⟨w.heap.size, 0, none⟩ = false := (hb5.frozen (p := ⟨w.heap.size, 0, none⟩) hz0).trans (hf 0)
  have f1 : w3.frozen? ⟨w.heap.size, 1, none⟩ = false := (hb5.frozen (p := ⟨w.heap.size, 1, none⟩) hz0).trans (hf 1)
  have hb6 := hb0.trans (hb5.mono hb0.size)
  clear hb3 hb4 hb5 hc0 hc1 hf
  obtain ⟨t0, t1⟩ := rd_cells w3 w.heap.size _ _ (.int .u32 (n : Int)) (.int .i64 (k : Int)) d0 d1
  have hb7 := (hb6.setCell (p := ⟨w.heap.size, 0, none⟩) (Nat.le_refl _) (.int .u32 (n : Int))).setCell (p := ⟨w.heap.size, 1, none⟩) (Nat.le_refl _) (.int .i64 (k : Int))
  clear hb6
  go_wp2
  refine bodyPost_ret (v := .tuple #[.agg #[.int .u32 (n : Int), .int .i64 (k : Int)], .nilIface]) (by simp [results, Tryz.results123, go_sem, t0, t1]) rfl ?_
  exact ⟨rfl, hb7⟩
theorem PUnhex_any (t : ByteArray) (ht : t.size ≤ 2 ^ 40) (w : World) (htab : Tabs w) (hp : Perrs w) :
    Calls Tryz.prog 171 #[.string t] w fun e w' => ∃ x, e = .returned (.tuple #[.int .u32 x, .bool (unhexOf t.data.toList).isSome]) ∧ Below w.heap.size w w' := by
  cases h : unhexOf t.data.toList with
  | none => exact (PUnhex_none t ht h w htab hp).mono fun e w' ⟨he, hb⟩ => ⟨_, he, hb⟩
  | some n => exact (PUnhex_some t ht n h w htab).mono fun e w' ⟨he, hb⟩ => ⟨_, he, hb⟩
theorem Number_any (t : ByteArray) (ht : t.size ≤ 2 ^ 40) (m : Nat) (hm : m ≤ 1000) (w : World) (htab : Tabs w) (hp : Perrs w) :
    Calls Tryz.prog 124 #[.string t, .int .i64 (m : Int)] w fun e w' => ∃ x, e = .returned (.tuple #[.int .i64 x, .bool (numOf t.data.toList m).isSome]) ∧ Below w.heap.size w w' := by
  cases h : numOf t.data.toList m with
  | none => exact (Number_none t ht m hm h w htab hp).mono fun e w' ⟨he, hb⟩ => ⟨_, he, hb⟩
  | some n => exact (Number_some t ht m n hm h w htab).mono fun e w' ⟨he, hb⟩ => ⟨_, he, hb⟩
set_option maxHeartbeats 1000000 in
theorem Read_none (a : Nat → Addr) (t : ByteArray) (ht : t.size ≤ 2 ^ 30) (h : readId t.data.toList = none) (w : World) (htab : Tabs w) (hm : MaxL w) (hp : Perrs w) (hs : SomeS [0] a w) :
    Calls Tryz.prog 123 #[.string t] w fun e w' => e = .returned (.tuple #[.agg #[.int .u32 0, .int .i64 0], sval a 0]) ∧ Below w.heap.size w w' := by
  have hb0 : Below w.heap.size w (w.alloc (.cells #[.int .u32 0, .int .i64 0] 47)) := (Below.refl _ w).alloc (Nat.le_refl _) _
  have HT := Lib.hid (htab.below hb0)
  have HM := Lib.hid (hm.below hb0)
  have HP := Lib.hid (hp.below hb0)
  have HS := Lib.hid (hs.below hb0)
  have hc0 : (w.alloc (.cells #[.int .u32 0, .int .i64 0] 47)).cell? ⟨w.heap.size, 0, none⟩ = some (.int .u32 0) := by rw [World.cell?_alloc_at _ _ _ _ rfl]; rfl
  have hc1 : (w.alloc (.cells #[.int .u32 0, .int .i64 0] 47)).cell? ⟨w.heap.size, 1, none⟩ = some (.int .i64 0) := by rw [World.cell?_alloc_at _ _ _ _ rfl]; rfl
  have hf : ∀ j, (w.alloc (.cells #[.int .u32 0, .int .i64 0] 47)).frozen? ⟨w.heap.size, j, none⟩ = false := fun j => World.frozen?_alloc_new _ _ _ _
  have hz0 : w.heap.size < (w.alloc (.cells #[.int .u32 0, .int .i64 0] 47)).heap.size := by simp
  have hgl : 5 < w.heap.size := World.block_lt_of_cell? w _ (hs 0 (by simp))
  clear htab hm hp hs
  cases hc : byteCut 45 t.data.toList with
  | none =>
    have HC := Lib.hid hc
    clear h hc
    go_enter Tryz.func123, Tryz.ntmps123
    go_wp2_with fail
    generalize w.alloc (.cells #[.int .u32 0, .int .i64 0] 47) = w0 at *
    refine (SCut_none t 45 ht HC.out _ HM.out).mono ?_
    rintro e w1 ⟨rfl, hb1⟩
    have HT1 := Lib.hid (HT.out.below hb1)
    have HP1 := Lib.hid (HP.out.below hb1)
    go_wp2_with fail
    refine (PUnhex_any t (by omega) _ HT1.out HP1.out).mono ?_
    rintro e w2 ⟨x, rfl, hb2⟩
    have hb3 := hb1.trans (hb2.mono hb1.size)
    have HT2 := Lib.hid (HT.out.below hb3)
    have HP2 := Lib.hid (HP.out.below hb3)
    clear hb1 hb2
    generalize (unhexOf t.data.toList).isSome = ok1 at *
    go_wp2_with fail
    refine (Number_any ⟨#[]⟩ (by decide) 6 (by decide) _ HT2.out HP2.out).mono ?_
    rintro e w3 ⟨y, rfl, hb4⟩
    have hb5 := hb3.trans (hb4.mono hb3.size)
    have d0 := (hb5.cell (p := ⟨w.heap.size, 0, none⟩) hz0).trans hc0
    have d1 := (hb5.cell (p := ⟨w.heap.size, 1, none⟩) hz0).trans hc1
    have f0 : w3.frozen? ⟨w.heap.size, 0, none⟩ = false := (hb5.frozen (p := ⟨w.heap.size, 0, none⟩) hz0).trans (hf 0)
    have f1 : w3.frozen? ⟨w.heap.size, 1, none⟩ = false := (hb5.frozen (p := ⟨w.heap.size, 1, none⟩) hz0).trans (hf 1)
    have s0 : w3.cell? ⟨5, 0, none⟩ = some (sval a 0) := (HS.out.below hb5) 0 (by simp)
    unfold sval at s0
    have hb6 := hb0.trans (hb5.mono hb0.size)
    generalize (numOf (⟨#[]⟩ : ByteArray).data.toList 6).isSome = ok2 at *
    clear hb3 hb4 hb5 hc0 hc1 hf
    have hb7 := ((hb6.setCell (p := ⟨w.heap.size, 0, none⟩) (Nat.le_refl _) (.int .u32 0)).setCell (p := ⟨w.heap.size, 1, none⟩) (Nat.le_refl _) (.int .i64 0)).drew
    obtain ⟨t0, t1⟩ := rd_cells w3 w.heap.size _ _ (.int .u32 0) (.int .i64 0) d0 d1
    have t2 : (w3.setCell ⟨w.heap.size, 0, none⟩ (.int .u32 0)).cell? ⟨w.heap.size, 0, none⟩ = some (.int .u32 0) := World.cell?_setCell_same _ _ _ d0
    have hne : ¬ (5 = w.heap.size) := by omega
    clear hb6
    go_wp2
    go_region
    go_wp2
    refine bodyPost_ret (v := .tuple #[.agg #[.int .u32 0, .int .i64 0], .iface 361 (.pointer (some (a 0)))]) (by simp [results, Tryz.results123, go_sem, t0, t1, t2]) rfl ?_
    exact ⟨rfl, hb7⟩
  | some p =>
    obtain ⟨hh, d⟩ := p
    obtain ⟨hl, _⟩ := byteCut_some _ _ _ _ hc
    have hsz : (bs hh).size ≤ 2 ^ 40 ∧ (bs d).size ≤ 2 ^ 40 := by
      have := congrArg List.length hl
      rw [← size_toList, List.length_append, List.length_cons] at this
      rw [bs_size, bs_size]; omega
    obtain ⟨hs1, hs2⟩ := hsz
    have hor : (unhexOf hh).isSome = false ∨ ((unhexOf hh).isSome = true ∧ (numOf d 6).isSome = false) := by
      unfold readId at h
      rw [hc] at h
      cases h1 : unhexOf hh with
      | none => exact .inl rfl
      | some n =>
        cases h2 : numOf d 6 with
        | none => exact .inr ⟨rfl, rfl⟩
        | some k => simp [h1, h2] at h
    have HC := Lib.hid hc
    have HOR := Lib.hid hor
    clear h hc hl hor
    go_enter Tryz.func123, Tryz.ntmps123
    go_wp2_with fail
    generalize w.alloc (.cells #[.int .u32 0, .int .i64 0] 47) = w0 at *
    refine (SCut_some t 45 ht hh d HC.out _ HM.out).mono ?_
    rintro e w1 ⟨rfl, hb1⟩
    have HT1 := Lib.hid (HT.out.below hb1)
    have HP1 := Lib.hid (HP.out.below hb1)
    go_wp2_with fail
    refine (PUnhex_any (bs hh) hs1 _ HT1.out HP1.out).mono ?_
    rintro e w2 ⟨x, rfl, hb2⟩
    have hb3 := hb1.trans (hb2.mono hb1.size)
    have HT2 := Lib.hid (HT.out.below hb3)
    have HP2 := Lib.hid (HP.out.below hb3)
    clear hb1 hb2
    rw [bs_toList]
    generalize (unhexOf hh).isSome = ok1 at *
    go_wp2_with fail
    refine (Number_any (bs d) hs2 6 (by decide) _ HT2.out HP2.out).mono ?_
    rintro e w3 ⟨y, rfl, hb4⟩
    have hb5 := hb3.trans (hb4.mono hb3.size)
    have d0 := (hb5.cell (p := ⟨w.heap.size, 0, none⟩) hz0).trans hc0
    have d1 := (hb5.cell (p := ⟨w.heap.size, 1, none⟩) hz0).trans hc1
    have f0 : w3.frozen? ⟨w.heap.size, 0, none⟩ = false := (hb5.frozen (p := ⟨w.heap.size, 0, none⟩) hz0).trans (hf 0)
    have f1 : w3.frozen? ⟨w.heap.size, 1, none⟩ = false := (hb5.frozen (p := ⟨w.heap.size, 1, none⟩) hz0).trans (hf 1)
    have s0 : w3.cell? ⟨5, 0, none⟩ = some (sval a 0) := (HS.out.below hb5) 0 (by simp)
    unfold sval at s0
    have hb6 := hb0.trans (hb5.mono hb0.size)
    rw [bs_toList]
    generalize (numOf d 6).isSome = ok2 at *
    clear hb3 hb4 hb5 hc0 hc1 hf
    rcases HOR.out with rfl | ⟨rfl, rfl⟩
    · have hb7 := ((hb6.setCell (p := ⟨w.heap.size, 0, none⟩) (Nat.le_refl _) (.int .u32 0)).setCell (p := ⟨w.heap.size, 1, none⟩) (Nat.le_refl _) (.int .i64 0)).drew
      obtain ⟨t0, t1⟩ := rd_cells w3 w.heap.size _ _ (.int .u32 0) (.int .i64 0) d0 d1
      have t2 : (w3.setCell ⟨w.heap.size, 0, none⟩ (.int .u32 0)).cell? ⟨w.heap.size, 0, none⟩ = some (.int .u32 0) := World.cell?_setCell_same _ _ _ d0
      have hne : ¬ (5 = w.heap.size) := by omega
      clear hb6
      go_wp2
      go_region
      go_wp2
      refine bodyPost_ret (v := .tuple #[.agg #[.int .u32 0, .int .i64 0], .iface 361 (.pointer (some (a 0)))]) (by simp [results, Tryz.results123, go_sem, t0, t1, t2]) rfl ?_
      exact ⟨rfl, hb7⟩
    · have hb7 := ((hb6.setCell (p := ⟨w.heap.size, 0, none⟩) (Nat.le_refl _) (.int .u32 0)).setCell (p := ⟨w.heap.size, 1, none⟩) (Nat.le_refl _) (.int .i64 0)).drew
      obtain ⟨t0, t1⟩ := rd_cells w3 w.heap.size _ _ (.int .u32 0) (.int .i64 0) d0 d1
      have t2 : (w3.setCell ⟨w.heap.size, 0, none⟩ (.int .u32 0)).cell? ⟨w.heap.size, 0, none⟩ = some (.int .u32 0) := World.cell?_setCell_same _ _ _ d0
      have hne : ¬ (5 = w.heap.size) := by omega
      clear hb6
      go_wp2
      go_region
      go_wp2
      refine bodyPost_ret (v := .tuple #[.agg #[.int .u32 0, .int .i64 0], .iface 361 (.pointer (some (a 0)))]) (by simp [results, Tryz.results123, go_sem, t0, t1, t2]) rfl ?_
      exact ⟨rfl, hb7⟩
end Go.Proofs.YtpanoplcamdnkaaGreatDoor
/- Walk of printed (a closed fact). Condition: the tables and MaxLen lie as named (PrW). -/
namespace Go.Proofs.YtpanoplcamdnkaaGreatDoor
open Go.RowKit Go.Lib

structure PrW (w : World) : Prop where
  t : Tabs w
  m : MaxL w
theorem PrW.below {w w' : World} (h : PrW w) (hb : Below w.heap.size w w') : PrW w' := ⟨h.t.below hb, h.m.below hb⟩
theorem hexc_no (d : Nat) (h : d < 16) : hexc d ≠ 45 := (show ∀ e : Fin 16, hexc e.1 ≠ 45 by decide) ⟨d, h⟩
theorem hex8_no (p : Nat) : (45 : UInt8) ∉ hex8 p := fun h => by
  unfold hex8 hexL at h
  obtain ⟨j, _, hj⟩ := List.mem_map.1 h
  exact hexc_no _ (Nat.mod_lt _ (by decide)) hj
/-- what is written is read -/
theorem readId_text (p k : Nat) (hp : p < 4294967296) (hk : k < 1000000) : readId (idText p (k : Int)) = some (p, k) := by
  unfold idText
  rw [if_neg (by omega), itoa_nat]
  unfold readId
  rw [byteCut_of 45 (hex8 p) _ (hex8_no p)]
  simp only [unhexOf_hex8 p hp, numOf_dec k 6 (by omega) (by rw [decDigits_length]; exact nDigits_le_of k 5 (by omega))]
theorem decDigits_zero : decDigits 0 = [48] := by rw [decDigits, dif_pos (by decide)]; rfl
theorem prText0 : idText 2166136261 0 = [56, 49, 49, 99, 57, 100, 99, 53, 45, 48] := by
  unfold idText
  rw [if_neg (by decide), show itoa 0 = [48] from by rw [show (0 : Int) = ((0 : Nat) : Int) from rfl, itoa_nat, decDigits_zero]]
  decide +kernel
theorem prRead0 : readId [56, 49, 49, 99, 57, 100, 99, 53, 45, 48] = some (2166136261, 0) := by
  rw [← prText0]
  exact readId_text 2166136261 0 (by decide) (by decide)
end Go.Proofs.YtpanoplcamdnkaaGreatDoor

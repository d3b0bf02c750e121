/- Walk of bin.one: a piece in front of a text. Condition: the library's tables and variables and ErrText lie as named. -/
import Derived.Test.YtpanoplcamdnkaaGreatDoorPlainG
import Derived.Test.YtpanoplcamdnkaaGreatDoorHlds
import Derived.Test.YtpanoplcamdnkaaGreatDoorPrt2
namespace Go.Proofs.YtpanoplcamdnkaaGreatDoor
open Go.RowKit Go.Lib

/-- a text cut at a byte: as the library hands it over -/
def cutRes (b : UInt8) (l : Bytes) : Bytes × Bytes × Bool := match byteCut b l with
  | some (d, r) => (d, r, true)
  | none => (l, [], false)
theorem cutRes_some {b : UInt8} {l d r : Bytes} (h : byteCut b l = some (d, r)) : cutRes b l = (d, r, true) := by unfold cutRes; rw [h]
theorem cutRes_none {b : UInt8} {l : Bytes} (h : byteCut b l = none) : cutRes b l = (l, [], false) := by unfold cutRes; rw [h]
theorem cutRes_le (b : UInt8) (l : Bytes) : (cutRes b l).1.length ≤ l.length ∧ (cutRes b l).2.1.length ≤ l.length := by
  cases h : byteCut b l with
  | none => rw [cutRes_none h]; exact ⟨Nat.le_refl _, Nat.zero_le _⟩
  | some p =>
    obtain ⟨d, r⟩ := p
    rw [cutRes_some h]
    obtain ⟨rfl, _⟩ := byteCut_some _ _ _ _ h
    simp only [List.length_append, List.length_cons]; omega
theorem SCut_any (l : Bytes) (b : UInt8) (hs : l.length ≤ 2 ^ 30) (w : World) (hm : MaxL w) :
    Calls Tryz.prog 122 #[.string (bs l), .string ⟨#[b]⟩] w fun e w' => e = .returned (.tuple #[VT (cutRes b l).1, VT (cutRes b l).2.1, .bool (cutRes b l).2.2]) ∧ Below w.heap.size w w' := by
  cases h : byteCut b l with
  | none =>
    rw [cutRes_none h]
    exact SCut_none (bs l) b (by rw [bs_size]; exact hs) (by rw [bs_toList]; exact h) w hm
  | some p =>
    obtain ⟨d, r⟩ := p
    rw [cutRes_some h]
    exact SCut_some (bs l) b (by rw [bs_size]; exact hs) d r (by rw [bs_toList]; exact h) w hm
def readIdz (l : Bytes) : Idn := match readId l with
  | some (n, k) => (n, (k : Int))
  | none => (0, 0)
def readErr (l : Bytes) : Int := if (readId l).isSome then 0 else 1
theorem PRead_any (a : Nat → Addr) (l : Bytes) (hs : l.length ≤ 2 ^ 30) (w : World) (htab : Tabs w) (hm : MaxL w) (hp : Perrs w) (hs0 : SomeS [0] a w) :
    Calls Tryz.prog 123 #[.string (bs l)] w fun e w' => ∃ r, e = .returned (.tuple #[idV (readIdz l), r]) ∧ ES a r (readErr l) ∧ Below w.heap.size w w' := by
  cases h : readId l with
  | none =>
    refine (Read_none a (bs l) (by rw [bs_size]; exact hs) (by rw [bs_toList]; exact h) w htab hm hp hs0).mono ?_
    rintro e w' ⟨rfl, hb⟩
    refine ⟨sval a 0, ?_, ?_, hb⟩
    · unfold readIdz; rw [h]; rfl
    · unfold readErr; rw [h]; exact ES.sent a 0 (by decide)
  | some p =>
    obtain ⟨n, k⟩ := p
    refine (Read_some (bs l) (by rw [bs_size]; exact hs) n k (by rw [bs_toList]; exact h) w htab hm).mono ?_
    rintro e w' ⟨rfl, hb⟩
    refine ⟨.nilIface, ?_, ?_, hb⟩
    · unfold readIdz; rw [h]
    · unfold readErr; rw [h]; exact ES.none a
theorem Number_res (l : Bytes) (hs : l.length ≤ 2 ^ 30) (m : Nat) (hm : m ≤ 1000) (w : World) (htab : Tabs w) (hp : Perrs w) :
    Calls Tryz.prog 124 #[.string (bs l), .int .i64 (m : Int)] w fun e w' => e = .returned (.tuple #[.int .i64 (numVal l m), .bool (numOf l m).isSome]) ∧ Below w.heap.size w w' := by
  have hz : (bs l).size ≤ 2 ^ 40 := by rw [bs_size]; omega
  cases h : numOf l m with
  | none =>
    refine (Number_none (bs l) hz m hm (by rw [bs_toList]; exact h) w htab hp).mono ?_
    rintro e w' ⟨rfl, hb⟩
    exact ⟨by unfold numVal; rw [h]; rfl, hb⟩
  | some k =>
    refine (Number_some (bs l) hz m k hm (by rw [bs_toList]; exact h) w htab).mono ?_
    rintro e w' ⟨rfl, hb⟩
    exact ⟨by unfold numVal; rw [h]; rfl, hb⟩
/-- what a text's first piece is, as the package's answers say it -/
theorem oneF_cases (s : Bytes) : (oneF s = none ∧ ((cutRes 10 s).2.2 = false ∨ (cutRes 32 (cutRes 10 s).1).2.2 = false ∨ readId (cutRes 32 (cutRes 10 s).1).1 = none ∨ numOf (cutRes 32 (cutRes 10 s).1).2.1 6 = none)) ∨
    ∃ p n k : Nat, (cutRes 10 s).2.2 = true ∧ (cutRes 32 (cutRes 10 s).1).2.2 = true ∧ readId (cutRes 32 (cutRes 10 s).1).1 = some (p, n) ∧ numOf (cutRes 32 (cutRes 10 s).1).2.1 6 = some k ∧
      ((oneF s = none ∧ (cutRes 10 s).2.1[n]? ≠ some 10) ∨ (oneF s = some (⟨(p, (n : Int)), (k : Int), (cutRes 10 s).2.1.take n⟩, (cutRes 10 s).2.1.drop (n + 1)) ∧ (cutRes 10 s).2.1[n]? = some 10)) := by
  cases h1 : byteCut 10 s with
  | none => exact .inl ⟨oneF_none1 h1, .inl (by rw [cutRes_none h1])⟩
  | some q =>
    obtain ⟨head, rest⟩ := q
    rw [cutRes_some h1]
    simp only
    cases h2 : byteCut 32 head with
    | none => exact .inl ⟨oneF_none2 h1 h2, .inr (.inl (by rw [cutRes_none h2]))⟩
    | some q =>
      obtain ⟨i, u⟩ := q
      rw [cutRes_some h2]
      simp only
      cases h3 : readId i with
      | none => exact .inl ⟨oneF_none3 h1 h2 h3, .inr (.inr (.inl rfl))⟩
      | some q =>
        obtain ⟨p, n⟩ := q
        cases h4 : numOf u 6 with
        | none => exact .inl ⟨oneF_none4 h1 h2 h4, .inr (.inr (.inr rfl))⟩
        | some k =>
          refine .inr ⟨p, n, k, by simp, by simp, rfl, rfl, ?_⟩
          by_cases h5 : rest[n]? = some 10
          · exact .inr ⟨oneF_of h1 h2 h3 h4 h5, h5⟩
          · exact .inl ⟨oneF_none5 h1 h2 h3 h4 h5, h5⟩
theorem readId_le {l : Bytes} {p n : Nat} (h : readId l = some (p, n)) : n ≤ 1000000 ∧ p < 4294967296 := by
  unfold readId at h
  split at h
  · cases h
  · next a b hc =>
    split at h
    · next x y hx hy =>
      simp only [Option.some.injEq, Prod.mk.injEq] at h
      obtain ⟨rfl, rfl⟩ := h
      obtain ⟨_, h2, h3⟩ := numOf_some hy
      refine ⟨?_, (unhexOf_some hx).1⟩
      have h4 : (decDigits y).length ≤ 6 := by rw [← h3]; exact h2
      rw [decDigits_length] at h4
      have h5 : y < 10 ^ nDigits y := lt_pow_nDigits y
      have h6 : (10 : Nat) ^ nDigits y ≤ 10 ^ 6 := Nat.pow_le_pow_right (by decide) h4
      omega
    · cases h
theorem numOf_le6 {l : Bytes} {k : Nat} (h : numOf l 6 = some k) : k < 1000000 := by
  obtain ⟨_, h2, h3⟩ := numOf_some h
  have h4 : (decDigits k).length ≤ 6 := by rw [← h3]; exact h2
  rw [decDigits_length] at h4
  have h5 : k < 10 ^ nDigits k := lt_pow_nDigits k
  have h6 : (10 : Nat) ^ nDigits k ≤ 10 ^ 6 := Nat.pow_le_pow_right (by decide) h4
  omega
theorem bs_at (l : Bytes) (n : Nat) (h : n < (bs l).size) : l[n]? = some ((bs l)[n]'h) := by
  have hl : n < l.length := by rw [← bs_size]; exact h
  rw [List.getElem?_eq_getElem hl]
  congr 1
theorem at_yes {l : Bytes} {n : Nat} (h : l[n]? = some 10) (hb : n < (bs l).size) : ((((bs l)[n]'hb).toNat : Int) == 10) = true := by
  rw [bs_at l n hb] at h
  injection h with h
  rw [h]; rfl
theorem at_yes' {l : Bytes} {n : Nat} (h : l[n]? = some 10) (hb : n < (bs l).size) : ((((bs l)[n]'hb).toNat : Int) != 10) = false := by rw [bne, at_yes h hb]; rfl
theorem at_no {l : Bytes} {n : Nat} (h : l[n]? ≠ some 10) (hb : n < (bs l).size) : ((((bs l)[n]'hb).toNat : Int) == 10) = false := by
  rw [bs_at l n hb] at h
  rw [beq_eq_false_iff_ne]
  intro e
  exact h (by congr 1; exact UInt8.toNat_inj.1 (by show _ = 10; omega))
theorem at_no' {l : Bytes} {n : Nat} (h : l[n]? ≠ some 10) (hb : n < (bs l).size) : ((((bs l)[n]'hb).toNat : Int) != 10) = true := by rw [bne, at_no h hb]; rfl
theorem Box2.set4 {b d : Nat} {x y : Value} {w : World} (h : Box2 b x y w) (hd : b ≠ d) (p q r t : Value) : Box2 b x y ((((w.setCell ⟨d, 0, none⟩ p).setCell ⟨d, 1, none⟩ q).setCell ⟨d, 2, none⟩ r).setCell ⟨d, 3, none⟩ t) :=
  ⟨(cell_set4 w p q r t (p := ⟨b, 0, none⟩) hd).trans h.c0, (cell_set4 w p q r t (p := ⟨b, 1, none⟩) hd).trans h.c1, by simp only [World.frozen?_setCell]; exact h.f0, by simp only [World.frozen?_setCell]; exact h.f1⟩
theorem Box4.drewN {b : Nat} {x y z u : Value} {w : World} (h : Box4 b x y z u w) : Box4 b x y z u w.drew := ⟨h.c0, h.c1, h.c2, h.c3, h.f⟩
def OnePost (s : Bytes) (w : World) (e : Ending) (w' : World) : Prop := (e = match oneF s with
  | some (x, r) => .returned (.tuple #[hldV x, VT r, .bool true])
  | none => .returned (.tuple #[hldV hldZ, VT [], .bool false])) ∧ Below w.heap.size w w'
theorem one_no {s : Bytes} {w w' : World} (h : oneF s = none) (hb : Below w.heap.size w w') : OnePost s w (.returned (.tuple #[hldV hldZ, VT [], .bool false])) w' := by unfold OnePost; rw [h]; exact ⟨rfl, hb⟩
theorem one_yes {s : Bytes} {x : Hld} {r : Bytes} {w w' : World} (h : oneF s = some (x, r)) (hb : Below w.heap.size w w') : OnePost s w (.returned (.tuple #[hldV x, VT r, .bool true])) w' := by unfold OnePost; rw [h]; exact ⟨rfl, hb⟩
/-- a block of four cells of the call's own, read back behind four stores -/
theorem Box4.rd4 {b : Nat} {x y z u : Value} {w : World} (h : Box4 b x y z u w) (x' y' z' u' : Value) :
    ((((w.setCell ⟨b, 0, none⟩ x').setCell ⟨b, 1, none⟩ y').setCell ⟨b, 2, none⟩ z').setCell ⟨b, 3, none⟩ u').cell? ⟨b, 0, none⟩ = some x' ∧ ((((w.setCell ⟨b, 0, none⟩ x').setCell ⟨b, 1, none⟩ y').setCell ⟨b, 2, none⟩ z').setCell ⟨b, 3, none⟩ u').cell? ⟨b, 1, none⟩ = some y' ∧
    ((((w.setCell ⟨b, 0, none⟩ x').setCell ⟨b, 1, none⟩ y').setCell ⟨b, 2, none⟩ z').setCell ⟨b, 3, none⟩ u').cell? ⟨b, 2, none⟩ = some z' ∧ ((((w.setCell ⟨b, 0, none⟩ x').setCell ⟨b, 1, none⟩ y').setCell ⟨b, 2, none⟩ z').setCell ⟨b, 3, none⟩ u').cell? ⟨b, 3, none⟩ = some u' :=
  have q := h.set x' y' z' u'
  ⟨q.c0, q.c1, q.c2, q.c3⟩
set_option maxRecDepth 100000 in
set_option maxHeartbeats 4000000 in
theorem BnOne_any (a : Nat → Addr) (s : Bytes) (hs : s.length ≤ 2 ^ 30) (w : World) (htab : Tabs w) (hm : MaxL w) (hp : Perrs w) (hs0 : SomeS [0] a w) :
    Calls Tryz.prog 71 #[.string (bs s)] w (OnePost s w) := by
  have hb0 : Below w.heap.size w (w.alloc (.cells #[.int .u32 0, .int .i64 0, .int .i64 0, .string ⟨#[]⟩] 82)) := (Below.refl _ w).alloc (Nat.le_refl _) _
  have HBR0 := Lib.hid (Box4.mk' w (.int .u32 0) (.int .i64 0) (.int .i64 0) (.string ⟨#[]⟩) 82)
  have HT := Lib.hid (htab.below hb0)
  have HM := Lib.hid (hm.below hb0)
  have HP := Lib.hid (hp.below hb0)
  have HS := Lib.hid (hs0.below hb0)
  have HB0 := Lib.hid hb0
  have hcs := oneF_cases s
  clear htab hm hp hs0 hb0
  go_enter Tryz.func71, Tryz.ntmps71
  go_wp2_with fail
  generalize w.alloc (.cells #[.int .u32 0, .int .i64 0, .int .i64 0, .string ⟨#[]⟩] 82) = w0 at *
  refine (SCut_any s 10 hs w0 HM.out).mono ?_
  rintro e w1 ⟨rfl, hb1⟩
  have HM1 := Lib.hid (HM.out.below hb1)
  have HB01 := Lib.hid hb1
  generalize hC : cutRes 10 s = C at *
  obtain ⟨head, rest, is⟩ := C
  have hl1 : head.length ≤ s.length ∧ rest.length ≤ s.length := by have := cutRes_le 10 s; rw [hC] at this; exact this
  have HL1 := Lib.hid hl1
  have hh : head.length ≤ 2 ^ 30 := by omega
  clear hb1 hl1
  go_wp2_with fail
  refine (SCut_any head 32 hh w1 HM1.out).mono ?_
  rintro e w2 ⟨rfl, hb2⟩
  have HB02 := Lib.hid (HB01.out.trans (hb2.mono HB01.out.size))
  generalize hD : cutRes 32 head = E at *
  obtain ⟨i, u, also⟩ := E
  have hl2 : i.length ≤ 2 ^ 30 ∧ u.length ≤ 2 ^ 30 := by have := cutRes_le 32 head; rw [hD] at this; simp only at this; omega
  have HL2 := Lib.hid hl2
  clear hb2 hl2
  go_wp2_with fail
  refine (PRead_any a i HL2.out.1 w2 (HT.out.below HB02.out) (HM.out.below HB02.out) (HP.out.below HB02.out) (HS.out.below HB02.out)).mono ?_
  rintro e w3 ⟨r3, rfl, hes, hb3⟩
  have HES := Lib.hid hes
  have HB03 := Lib.hid hb3.size
  have hx3 : Box2 w3.heap.size (.int .u32 ((readIdz i).1 : Int)) (.int .i64 (readIdz i).2) (w3.alloc (.cells #[.int .u32 ((readIdz i).1 : Int), .int .i64 (readIdz i).2] 47)) := Box2.mk' _ _ _ _
  have hb4 := (HB02.out.trans (hb3.mono HB02.out.size)).alloc (HB02.out.trans (hb3.mono HB02.out.size)).size (.cells #[.int .u32 ((readIdz i).1 : Int), .int .i64 (readIdz i).2] 47)
  have HX3 := Lib.hid hx3
  have HB04 := Lib.hid hb4
  have HZ3 : Hid (w3.heap.size < (w3.alloc (.cells #[.int .u32 ((readIdz i).1 : Int), .int .i64 (readIdz i).2] 47)).heap.size) := Lib.hid (by simp)
  clear hb3 hb4 hx3 hes
  go_wp2_with fail
  generalize w3.alloc (.cells #[.int .u32 ((readIdz i).1 : Int), .int .i64 (readIdz i).2] 47) = w4 at *
  refine (Number_res u HL2.out.2 6 (by decide) w4 (HT.out.below HB04.out) (HP.out.below HB04.out)).mono ?_
  rintro e w5 ⟨rfl, hb5⟩
  have HX := Lib.hid (HX3.out.below hb5 HZ3.out)
  have hbw := HB04.out.trans (hb5.mono HB04.out.size)
  have HB := Lib.hid (HB0.out.trans (hbw.mono HB0.out.size))
  have HBR := Lib.hid (HBR0.out.below hbw HBR0.out.lt)
  clear hb5 hbw
  rcases hcs with ⟨hn, h1 | h1 | h1 | h1⟩ | ⟨p, n, k, h1, h2, h3, h4, h5⟩
  · have HN := Lib.hid hn
    (try simp only at h1)
    subst h1
    clear hn
    obtain ⟨t0, t1, t2, t3⟩ := HBR.out.rd4 (.int .u32 0) (.int .i64 0) (.int .i64 0) (.string ⟨#[]⟩)
    obtain ⟨e0, e1, e2, e3, hf⟩ := HBR.out
    have f0 := hf 0
    have f1 := hf 1
    have f2 := hf 2
    have f3 := hf 3
    have HB9 := Lib.hid (below_set4 HB.out (Nat.le_refl _) (.int .u32 0) (.int .i64 0) (.int .i64 0) (.string ⟨#[]⟩))
    go_wp2
    refine bodyPost_ret (v := .tuple #[hldV hldZ, VT [], .bool false]) (by simp [results, Tryz.results71, go_sem, t0, t1, t2, t3, hldZ, bs]) rfl ?_
    exact one_no HN.out HB9.out
  · have HN := Lib.hid hn
    (try simp only at h1)
    subst h1
    clear hn
    cases is with
    | false =>
      obtain ⟨t0, t1, t2, t3⟩ := HBR.out.rd4 (.int .u32 0) (.int .i64 0) (.int .i64 0) (.string ⟨#[]⟩)
      obtain ⟨e0, e1, e2, e3, hf⟩ := HBR.out
      have f0 := hf 0
      have f1 := hf 1
      have f2 := hf 2
      have f3 := hf 3
      have HB9 := Lib.hid (below_set4 HB.out (Nat.le_refl _) (.int .u32 0) (.int .i64 0) (.int .i64 0) (.string ⟨#[]⟩))
      go_wp2
      refine bodyPost_ret (v := .tuple #[hldV hldZ, VT [], .bool false]) (by simp [results, Tryz.results71, go_sem, t0, t1, t2, t3, hldZ, bs]) rfl ?_
      exact one_no HN.out HB9.out
    | true =>
      obtain ⟨t0, t1, t2, t3⟩ := HBR.out.rd4 (.int .u32 0) (.int .i64 0) (.int .i64 0) (.string ⟨#[]⟩)
      obtain ⟨e0, e1, e2, e3, hf⟩ := HBR.out
      have f0 := hf 0
      have f1 := hf 1
      have f2 := hf 2
      have f3 := hf 3
      have HB9 := Lib.hid (below_set4 HB.out (Nat.le_refl _) (.int .u32 0) (.int .i64 0) (.int .i64 0) (.string ⟨#[]⟩))
      go_wp2
      refine bodyPost_ret (v := .tuple #[hldV hldZ, VT [], .bool false]) (by simp [results, Tryz.results71, go_sem, t0, t1, t2, t3, hldZ, bs]) rfl ?_
      exact one_no HN.out HB9.out
  · have HN := Lib.hid hn
    (try simp only at h1)
    have hre : readErr i ≠ 0 := by unfold readErr; rw [h1]; decide
    obtain ⟨T, q, rfl⟩ := HES.out.some hre
    clear hn h1 hre
    cases is with
    | false =>
      obtain ⟨t0, t1, t2, t3⟩ := HBR.out.rd4 (.int .u32 0) (.int .i64 0) (.int .i64 0) (.string ⟨#[]⟩)
      obtain ⟨e0, e1, e2, e3, hf⟩ := HBR.out
      have f0 := hf 0
      have f1 := hf 1
      have f2 := hf 2
      have f3 := hf 3
      have HB9 := Lib.hid (below_set4 HB.out (Nat.le_refl _) (.int .u32 0) (.int .i64 0) (.int .i64 0) (.string ⟨#[]⟩))
      go_wp2
      refine bodyPost_ret (v := .tuple #[hldV hldZ, VT [], .bool false]) (by simp [results, Tryz.results71, go_sem, t0, t1, t2, t3, hldZ, bs]) rfl ?_
      exact one_no HN.out HB9.out
    | true =>
      cases also with
      | false =>
        obtain ⟨t0, t1, t2, t3⟩ := HBR.out.rd4 (.int .u32 0) (.int .i64 0) (.int .i64 0) (.string ⟨#[]⟩)
        obtain ⟨e0, e1, e2, e3, hf⟩ := HBR.out
        have f0 := hf 0
        have f1 := hf 1
        have f2 := hf 2
        have f3 := hf 3
        have HB9 := Lib.hid (below_set4 HB.out (Nat.le_refl _) (.int .u32 0) (.int .i64 0) (.int .i64 0) (.string ⟨#[]⟩))
        go_wp2
        refine bodyPost_ret (v := .tuple #[hldV hldZ, VT [], .bool false]) (by simp [results, Tryz.results71, go_sem, t0, t1, t2, t3, hldZ, bs]) rfl ?_
        exact one_no HN.out HB9.out
      | true =>
        obtain ⟨t0, t1, t2, t3⟩ := HBR.out.rd4 (.int .u32 0) (.int .i64 0) (.int .i64 0) (.string ⟨#[]⟩)
        obtain ⟨e0, e1, e2, e3, hf⟩ := HBR.out
        have f0 := hf 0
        have f1 := hf 1
        have f2 := hf 2
        have f3 := hf 3
        have HB9 := Lib.hid (below_set4 HB.out (Nat.le_refl _) (.int .u32 0) (.int .i64 0) (.int .i64 0) (.string ⟨#[]⟩))
        go_wp2
        refine bodyPost_ret (v := .tuple #[hldV hldZ, VT [], .bool false]) (by simp [results, Tryz.results71, go_sem, t0, t1, t2, t3, hldZ, bs]) rfl ?_
        exact one_no HN.out HB9.out
  · have HN := Lib.hid hn
    (try simp only at h1)
    have hv : (numOf u 6).isSome = false := by rw [h1]; rfl
    clear hn
    rw [hv]
    clear hv h1
    cases is with
    | false =>
      obtain ⟨t0, t1, t2, t3⟩ := HBR.out.rd4 (.int .u32 0) (.int .i64 0) (.int .i64 0) (.string ⟨#[]⟩)
      obtain ⟨e0, e1, e2, e3, hf⟩ := HBR.out
      have f0 := hf 0
      have f1 := hf 1
      have f2 := hf 2
      have f3 := hf 3
      have HB9 := Lib.hid (below_set4 HB.out (Nat.le_refl _) (.int .u32 0) (.int .i64 0) (.int .i64 0) (.string ⟨#[]⟩))
      go_wp2
      refine bodyPost_ret (v := .tuple #[hldV hldZ, VT [], .bool false]) (by simp [results, Tryz.results71, go_sem, t0, t1, t2, t3, hldZ, bs]) rfl ?_
      exact one_no HN.out HB9.out
    | true =>
      cases also with
      | false =>
        obtain ⟨t0, t1, t2, t3⟩ := HBR.out.rd4 (.int .u32 0) (.int .i64 0) (.int .i64 0) (.string ⟨#[]⟩)
        obtain ⟨e0, e1, e2, e3, hf⟩ := HBR.out
        have f0 := hf 0
        have f1 := hf 1
        have f2 := hf 2
        have f3 := hf 3
        have HB9 := Lib.hid (below_set4 HB.out (Nat.le_refl _) (.int .u32 0) (.int .i64 0) (.int .i64 0) (.string ⟨#[]⟩))
        go_wp2
        refine bodyPost_ret (v := .tuple #[hldV hldZ, VT [], .bool false]) (by simp [results, Tryz.results71, go_sem, t0, t1, t2, t3, hldZ, bs]) rfl ?_
        exact one_no HN.out HB9.out
      | true =>
        rcases HES.out with ⟨rfl, _⟩ | ⟨k9, hk9, rfl, _⟩
        · obtain ⟨t0, t1, t2, t3⟩ := HBR.out.rd4 (.int .u32 0) (.int .i64 0) (.int .i64 0) (.string ⟨#[]⟩)
          obtain ⟨e0, e1, e2, e3, hf⟩ := HBR.out
          have f0 := hf 0
          have f1 := hf 1
          have f2 := hf 2
          have f3 := hf 3
          have HB9 := Lib.hid (below_set4 HB.out (Nat.le_refl _) (.int .u32 0) (.int .i64 0) (.int .i64 0) (.string ⟨#[]⟩))
          go_wp2
          refine bodyPost_ret (v := .tuple #[hldV hldZ, VT [], .bool false]) (by simp [results, Tryz.results71, go_sem, t0, t1, t2, t3, hldZ, bs]) rfl ?_
          exact one_no HN.out HB9.out
        · unfold sval
          obtain ⟨t0, t1, t2, t3⟩ := HBR.out.rd4 (.int .u32 0) (.int .i64 0) (.int .i64 0) (.string ⟨#[]⟩)
          obtain ⟨e0, e1, e2, e3, hf⟩ := HBR.out
          have f0 := hf 0
          have f1 := hf 1
          have f2 := hf 2
          have f3 := hf 3
          have HB9 := Lib.hid (below_set4 HB.out (Nat.le_refl _) (.int .u32 0) (.int .i64 0) (.int .i64 0) (.string ⟨#[]⟩))
          go_wp2
          refine bodyPost_ret (v := .tuple #[hldV hldZ, VT [], .bool false]) (by simp [results, Tryz.results71, go_sem, t0, t1, t2, t3, hldZ, bs]) rfl ?_
          exact one_no HN.out HB9.out
  · (try simp only at h1 h2 h3 h4 h5)
    subst h1; subst h2
    have hre : readErr i = 0 := by unfold readErr; rw [h3]; rfl
    obtain ⟨rfl, _⟩ := HES.out.nil hre
    have hz : readIdz i = (p, (n : Int)) := by unfold readIdz; rw [h3]
    have hv : (numOf u 6).isSome = true := by rw [h4]; rfl
    have hnv : numVal u 6 = (k : Int) := by unfold numVal; rw [h4]; rfl
    obtain ⟨hn6, hp4⟩ := readId_le h3
    have hk6 := numOf_le6 h4
    rw [hz] at HX
    obtain ⟨x0, x1, _, _⟩ := HX.out
    rw [hv, hnv]
    have hrs : (bs rest).size = rest.length := bs_size rest
    rcases h5 with ⟨hn, h6⟩ | ⟨hy, h6⟩
    · have HN := Lib.hid hn
      by_cases h7 : rest.length < n + 1
      · have h7i : (rest.length : Int) < (n : Int) + 1 := by omega
        clear h6 hn h7 hre hz hv hnv h3 h4
        obtain ⟨t0, t1, t2, t3⟩ := HBR.out.rd4 (.int .u32 0) (.int .i64 0) (.int .i64 0) (.string ⟨#[]⟩)
        obtain ⟨e0, e1, e2, e3, hf⟩ := HBR.out
        have f0 := hf 0
        have f1 := hf 1
        have f2 := hf 2
        have f3 := hf 3
        have HB9 := Lib.hid (below_set4 HB.out (Nat.le_refl _) (.int .u32 0) (.int .i64 0) (.int .i64 0) (.string ⟨#[]⟩))
        go_wp2
        refine bodyPost_ret (v := .tuple #[hldV hldZ, VT [], .bool false]) (by simp [results, Tryz.results71, go_sem, t0, t1, t2, t3, hldZ, bs]) rfl ?_
        exact one_no HN.out HB9.out
      · have h7i : ¬ (rest.length : Int) < (n : Int) + 1 := by omega
        have hlt : n < rest.length := by omega
        have hltb : n < (bs rest).size := by rw [hrs]; exact hlt
        have h8 := at_no' h6 hltb
        have b1 : (0 : Int) ≤ (n : Int) := by omega
        have b2 : (n : Int) < (rest.length : Int) := by omega
        clear h6 hn h7 hre hz hv hnv h3 h4
        obtain ⟨t0, t1, t2, t3⟩ := HBR.out.rd4 (.int .u32 0) (.int .i64 0) (.int .i64 0) (.string ⟨#[]⟩)
        obtain ⟨e0, e1, e2, e3, hf⟩ := HBR.out
        have f0 := hf 0
        have f1 := hf 1
        have f2 := hf 2
        have f3 := hf 3
        have HB9 := Lib.hid (below_set4 HB.out (Nat.le_refl _) (.int .u32 0) (.int .i64 0) (.int .i64 0) (.string ⟨#[]⟩))
        go_wp2
        refine bodyPost_ret (v := .tuple #[hldV hldZ, VT [], .bool false]) (by simp [results, Tryz.results71, go_sem, t0, t1, t2, t3, hldZ, bs]) rfl ?_
        exact one_no HN.out HB9.out
    · have hlt : n < rest.length := by
        rcases Nat.lt_or_ge n rest.length with h | h
        · exact h
        · rw [List.getElem?_eq_none h] at h6; cases h6
      have HY := Lib.hid hy
      have h7i : ¬ (rest.length : Int) < (n : Int) + 1 := by omega
      have hltb : n < (bs rest).size := by rw [hrs]; exact hlt
      have h8 := at_yes' h6 hltb
      have b1 : (0 : Int) ≤ (n : Int) := by omega
      have b2 : (n : Int) < (rest.length : Int) := by omega
      have b3 : (n : Int) ≤ (rest.length : Int) := by omega
      have b4 : (n : Int) + 1 ≤ (rest.length : Int) := by omega
      have b5 : (0 : Int) ≤ (n : Int) + 1 := by omega
      have HWR : Hid (IntKind.i64.wrap ((n : Int) + 1) = (n : Int) + 1) := Lib.hid (IntWalk.i64_in _ (by omega))
      have HNE : Hid (w3.heap.size ≠ w.heap.size) := Lib.hid (by have := HB0.out.size; have := HB02.out.size; have := HBR0.out.lt; have := HB03.out; omega)
      have HE1 : Hid ((bs rest).extract 0 n = bs (rest.take n)) := Lib.hid (by rw [extract_bs, bs_toList, List.drop_zero])
      have HE2 : Hid ((bs rest).extract (n + 1) rest.length = bs (rest.drop (n + 1))) := Lib.hid (by rw [extract_bs, bs_toList, List.take_length])
      clear h6 hy hre hz hv hnv h3 h4
      go_wp2_with fail
      have hS0 : Below w.heap.size w w5.drew ∧ Box2 w3.heap.size (.int .u32 (p : Int)) (.int .i64 (n : Int)) w5.drew := ⟨HB.out.drew, Box2.drewN HX.out 1⟩
      refine region_S (fun w' => Below w.heap.size w w' ∧ Box2 w3.heap.size (.int .u32 (p : Int)) (.int .i64 (n : Int)) w') 13 (by kernel_rfl) (by kernel_rfl) ?_
      refine take_S 0 rfl (by kernel_rfl) (by kernel_rfl) hS0 (fun w' hS => by have A0 := hS.2.c0; have A1 := hS.2.c1; go_simp; rfl) ?_
      refine take_S 1 rfl (by kernel_rfl) (by kernel_rfl) hS0 (fun w' hS => by go_simp; rfl) ?_
      refine take_S 2 rfl (by kernel_rfl) (by kernel_rfl) hS0 (fun w' hS => by go_simp; rfl) ?_
      refine take_S 3 rfl (by kernel_rfl) (by kernel_rfl) hS0 (fun w' hS => by go_simp; rfl) ?_
      refine take_S 4 rfl (by kernel_rfl) (by kernel_rfl) hS0 (fun w' hS => by have A0 := hS.2.c0; have A1 := hS.2.c1; go_simp; rfl) ?_
      refine take_S 5 rfl (by kernel_rfl) (by kernel_rfl) hS0 (fun w' hS => by go_simp; rfl) ?_
      refine take_S 6 rfl (by kernel_rfl) (by kernel_rfl) hS0 (fun w' hS => by go_simp; rfl) ?_
      refine take_S 7 rfl (by kernel_rfl) (by kernel_rfl) hS0 (fun w' hS => by go_simp; rfl) ?_
      refine take_S 8 rfl (by kernel_rfl) (by kernel_rfl) hS0 (fun w' hS => by go_simp; rfl) ?_
      refine take_S 9 rfl (by kernel_rfl) (by kernel_rfl) hS0 (fun w' hS => by have A0 := hS.2.c0; have A1 := hS.2.c1; go_simp; rfl) ?_
      refine take_S 10 (v := .int .i64 ((n : Int) + 1)) rfl (by kernel_rfl) (by kernel_rfl) hS0 (fun w' hS => by have W1 := HWR.out; go_simp) ?_
      refine take_S 11 rfl (by kernel_rfl) (by kernel_rfl) hS0 (fun w' hS => by go_simp; rfl) ?_
      have HBRd := Lib.hid HBR.out.drewN
      generalize w5.drew = w6 at *
      obtain ⟨e0, e1, e2, e3, hf⟩ := HBRd.out
      have f0 := hf 0
      have f1 := hf 1
      have f2 := hf 2
      have f3 := hf 3
      refine carry_S 12 rfl (by kernel_rfl) (by decide) (by kernel_rfl) (fun K hK => ?_)
      go_simp
      have hS1 := And.intro (below_set4 hS0.1 (Nat.le_refl _) (.int .u32 (p : Int)) (.int .i64 (n : Int)) (.int .i64 (k : Int)) (.string ((bs rest).extract 0 n))) (hS0.2.set4 HNE.out (.int .u32 (p : Int)) (.int .i64 (n : Int)) (.int .i64 (k : Int)) (.string ((bs rest).extract 0 n)))
      refine hK _ _ hS1 (forced_S (by kernel_rfl) ?_)
      clear hK K
      try simp only [Act.put, List.getElem_toArray, List.getElem_cons_succ, List.getElem_cons_zero, List.setIfInBounds_toArray, List.set_cons_zero, List.set_cons_succ]
      simp only [List.drop_succ_cons, List.drop_zero]
      obtain ⟨t0, t1, t2, t3⟩ := HBRd.out.rd4 (.int .u32 (p : Int)) (.int .i64 (n : Int)) (.int .i64 (k : Int)) (.string ((bs rest).extract 0 n))
      have HB9 := Lib.hid hS1.1
      rw [HE1.out] at t0 t1 t2 t3 HB9 ⊢
      clear hS0 hS1
      generalize ((((w6.setCell ⟨w.heap.size, 0, none⟩ (.int .u32 (p : Int))).setCell ⟨w.heap.size, 1, none⟩ (.int .i64 (n : Int))).setCell ⟨w.heap.size, 2, none⟩ (.int .i64 (k : Int))).setCell ⟨w.heap.size, 3, none⟩ (.string (bs (rest.take n)))) = w7 at *
      go_wp2
      refine bodyPost_ret (v := .tuple #[hldV ⟨(p, (n : Int)), (k : Int), rest.take n⟩, VT (rest.drop (n + 1)), .bool true]) (by rw [HE2.out]; simp [results, Tryz.results71, go_sem, t0, t1, t2, t3]) rfl ?_
      exact one_yes HY.out HB9.out
end Go.Proofs.YtpanoplcamdnkaaGreatDoor

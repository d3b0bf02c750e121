/- Plain words on tables of answers, and the calls as they are read. No conditions. -/
import Derived.Test.YtpacalklcdlhoaaDoorOnd
import Derived.Test.YtpacalklcdlhoaaDoorErrV
import Derived.Test.YtpacalklcdlhoaaDoorSame
namespace Go.Proofs.YtpacalklcdlhoaaDoor
open Go.RowKit Go.Lib Go.Maps

structure Cl where
  note : Bool
  client : Bytes
  s : Bytes
  n : Int
def ClRd (w : World) (B : Nat) (v : Value) (l : List Cl) : Prop :=
  ∃ A c, v = .slice A l.length c ∧ l.length ≤ c ∧ (0 < l.length → ∃ g o, A = some ⟨g, o, none⟩ ∧ g < B ∧ ∀ k (hk : k < l.length),
    w.cell? ⟨g, o + k * 4, none⟩ = some (.bool l[k].note) ∧ w.cell? ⟨g, o + k * 4 + 1, none⟩ = some (VT l[k].client) ∧ w.cell? ⟨g, o + k * 4 + 2, none⟩ = some (VT l[k].s) ∧ w.cell? ⟨g, o + k * 4 + 3, none⟩ = some (.int .i64 l[k].n))
def longOne (c : Cl) : Bool := decide (30 < c.client.length) || decide (100 < c.s.length)
def longB (l : List Cl) : Bool := decide (80 < l.length) || l.any longOne
/-- the call that is looked at lies in block b -/
def CRow (b : Nat) (nt : Bool) (T X : ByteArray) (n : Int) (w : World) : Prop := w.heap[b]? = some (.cells #[.bool nt, .string T, .string X, .int .i64 n] 73 (0, 0))
theorem CRow.cells {b : Nat} {nt : Bool} {T X : ByteArray} {n : Int} {w : World} (h : CRow b nt T X n w) : w.cell? ⟨b, 0, none⟩ = some (.bool nt) ∧ w.cell? ⟨b, 1, none⟩ = some (.string T) ∧ w.cell? ⟨b, 2, none⟩ = some (.string X) ∧ w.cell? ⟨b, 3, none⟩ = some (.int .i64 n) :=
  ⟨by rw [cell_of_row w b 0 _ _ _ h]; rfl, by rw [cell_of_row w b 1 _ _ _ h]; rfl, by rw [cell_of_row w b 2 _ _ _ h]; rfl, by rw [cell_of_row w b 3 _ _ _ h]; rfl⟩
theorem CRow.lt {b : Nat} {nt : Bool} {T X : ByteArray} {n : Int} {w : World} (h : CRow b nt T X n w) : b < w.heap.size := (Array.getElem?_eq_some_iff.1 h).1
theorem CRow.below {b : Nat} {nt : Bool} {T X : ByteArray} {n : Int} {w w' : World} (h : CRow b nt T X n w) (hb : Below w.heap.size w w') : CRow b nt T X n w' := (hb.block b h.lt).trans h
theorem CRow.two {b d g : Nat} {nt : Bool} {T X : ByteArray} {n : Int} {w w' : World} (h : CRow b nt T X n w) (k : Two d g w w') (h1 : b ≠ d) (h2 : b ≠ g) : CRow b nt T X n w' := (k.block b h.lt h1 h2).trans h
/-! ### what a table does -/
theorem wrap_ne {an : Int} (h : (Lit.int .i64 an).wf = true) : an ≠ wrap64 (an + 1) := by
  simp [Lit.wf, IntKind.min, IntKind.max, IntKind.bits, IntKind.signed] at h
  unfold wrap64
  omega
theorem wrap_of {an : Int} (h : (Lit.int .i64 an).wf = true) : wrap64 an = an := by
  simp [Lit.wf, IntKind.min, IntKind.max, IntKind.bits, IntKind.signed] at h
  unfold wrap64
  omega
theorem isKeyS (t : Bytes) : WideAt.IsKeyLit (.string t) := trivial
theorem ask_bad {a : Nat → Addr} {D : DataW Unit} {t s : Bytes} {n an : Int} (hN : isName t = false) : askV a D t n an s = .tuple #[.string ⟨#[]⟩, .bool false, sval a 3] := if_pos hN
theorem ask_again {a : Nat → Addr} {D : DataW Unit} {t s : Bytes} {n an : Int} (hN : isName t = true) (hH : Maps.has D (.string t) = true) (h : n = an) : askV a D t n an s = .tuple #[.string (bs s), .bool true, .nilIface] :=
  (if_neg (by rw [hN]; simp)).trans (if_pos ⟨hH, h⟩)
theorem ask_order {a : Nat → Addr} {D : DataW Unit} {t s : Bytes} {n an : Int} (hN : isName t = true) (h : ¬ (Maps.has D (.string t) = true ∧ n = an)) (hw : n ≠ wrap64 (an + 1)) : askV a D t n an s = .tuple #[.string ⟨#[]⟩, .bool false, sval a 7] :=
  (if_neg (by rw [hN]; simp)).trans ((if_neg h).trans (if_pos hw))
theorem ask_free {a : Nat → Addr} {D : DataW Unit} {t s : Bytes} {n an : Int} (hN : isName t = true) (hf : (Lit.int .i64 an).wf = true) (hw : n = wrap64 (an + 1)) : askV a D t n an s = .tuple #[.string ⟨#[]⟩, .bool false, .nilIface] :=
  (if_neg (by rw [hN]; simp)).trans ((if_neg (fun h => wrap_ne hf (h.2.symm.trans hw))).trans (if_neg (not_not_intro hw)))
theorem note_bad {D : DataW Unit} {t : Bytes} {n an : Int} (hN : isName t = false) : noteNo D t n an = 3 := if_pos hN
theorem note_order {D : DataW Unit} {t : Bytes} {n an : Int} (hN : isName t = true) (hw : n ≠ wrap64 (an + 1)) : noteNo D t n an = 7 := (if_neg (by rw [hN]; simp)).trans (if_pos hw)
theorem note_full {D : DataW Unit} {t : Bytes} {n an : Int} (hN : isName t = true) (hw : n = wrap64 (an + 1)) (hz : Maps.has D (.string t) = false ∧ 20 ≤ Maps.size D) : noteNo D t n an = 6 := (if_neg (by rw [hN]; simp)).trans ((if_neg (not_not_intro hw)).trans (if_pos hz))
theorem note_ok {D : DataW Unit} {t : Bytes} {n an : Int} (hN : isName t = true) (hw : n = wrap64 (an + 1)) (hz : ¬ (Maps.has D (.string t) = false ∧ 20 ≤ Maps.size D)) : noteNo D t n an = 0 := (if_neg (by rw [hN]; simp)).trans ((if_neg (not_not_intro hw)).trans (if_neg hz))
/-- a table, above the sentinels, of at most twenty clients -/
structure OIn (a : Nat → Addr) (W : World) (b mb cnt : Nat) (D : DataW Unit) (w : World) : Prop where
  tab : OTab b mb D cnt w
  e : Sents a W
  bel : Below W.heap.size W w
  hb : W.heap.size ≤ b
  hm : W.heap.size ≤ mb
  sz : Maps.size D ≤ 20
theorem OIn.sen {a : Nat → Addr} {W w : World} {b mb cnt : Nat} {D : DataW Unit} (h : OIn a W b mb cnt D w) : Sents a w := h.e.below h.bel
theorem OIn.below {a : Nat → Addr} {W w w' : World} {b mb cnt : Nat} {D : DataW Unit} (h : OIn a W b mb cnt D w) (k : Below w.heap.size w w') : OIn a W b mb cnt D w' := ⟨h.tab.below k, h.e, h.bel.trans (k.mono h.bel.size), h.hb, h.hm, h.sz⟩
/-- asking, told of its value -/
theorem OIn.ask {a : Nat → Addr} {W : World} {b mb cnt : Nat} {D : DataW Unit} {t : ByteArray} (ht : t.size ≤ maxLen) {n an : Int} {s : Bytes} (hval : D.atKey (.string t.data.toList) (ansD 0 []) = ansD an s) {V : Value} (hV : askV a D t.data.toList n an s = V) :
    ∀ w, OIn a W b mb cnt D w → Calls Tryd.prog 39 #[.pointer (some ⟨b, 0, none⟩), .string t, .int .i64 n] w fun e w' => e = .returned V ∧ Below w.heap.size w w' := fun w h => by
  rw [← hV]
  exact OAsk_any a b mb cnt D t ht n an s hval w h.tab (h.sen.someS _ (by decide))
theorem OIn.note {a : Nat → Addr} {W : World} {b mb cnt : Nat} (hcnt : cnt < maxLen) {D D' : DataW Unit} {t x : ByteArray} (ht : t.size ≤ maxLen) {n an : Int} (hn : (Lit.int .i64 n).wf = true) {s : Bytes} (hval : D.atKey (.string t.data.toList) (ansD 0 []) = ansD an s)
    {k : Nat} (hk : noteNo D t.data.toList n an = k) (hD : noteD D t.data.toList n an x.data.toList = D') (hz : Maps.size D' ≤ 20) {V : Value} (hV : errK a k = V) :
    ∀ w, OIn a W b mb cnt D w → Calls Tryd.prog 40 #[.pointer (some ⟨b, 0, none⟩), .string t, .int .i64 n, .string x] w fun e w' => e = .returned V ∧ OIn a W b mb (cnt + 1) D' w' ∧ Two b mb w w' := fun w h => by
  refine (ONote_any a b mb cnt hcnt D t x ht n an hn s hval w h.tab (h.sen.someS _ (by decide))).mono fun e w' hp => ?_
  obtain ⟨r, rfl, hr, hT, h2⟩ := hp
  rw [hk] at hr
  rw [hD] at hT
  exact ⟨by rw [hr, hV], ⟨hT, h.e, h.bel.trans (h2.below h.hb h.hm h.bel.size), h.hb, h.hm, hz⟩, h2⟩
theorem size_note {D : DataW Unit} {w : World} {b mb cnt : Nat} (h : OTab b mb D cnt w) (hz : Maps.size D ≤ 20) {t : Bytes} (hf : ¬ (Maps.has D (.string t) = false ∧ 20 ≤ Maps.size D)) (d : DataW Unit) : Maps.size (D.put (.string t) d) ≤ 20 := by
  rw [Maps.size_put (h.map.tidy lawS)]
  cases hh : Maps.has D (.string t) with
  | true => simpa using hz
  | false =>
    simp only [Bool.false_eq_true, if_false]
    rcases Nat.lt_or_ge (Maps.size D) 20 with h1 | h1
    · omega
    · exact absurd ⟨hh, h1⟩ hf
end Go.Proofs.YtpacalklcdlhoaaDoor

/- BnA, BnP, BnD, BnS, BnT in one text. Conditions: as each part says. -/
import Derived.Test.YtpanoplcamdnkaaGreatDoorPln2
import Derived.Test.YtpanoplcamdnkaaGreatDoorIds1
import Derived.Test.YtpanoplcamdnkaaGreatDoorBse1
import Derived.Maps.OwnSet
import Derived.OwnWalk
import Derived.DeepKeys4
import Derived.Maps.OwnOps
import Derived.Maps.Views
import Derived.Handy
import Derived.Test.YtpanoplcamdnkaaGreatDoorPrt2
import Derived.Test.YtpanoplcamdnkaaGreatDoorBnL
import Derived.Maps.RangeWalk
import Derived.Deep.LoopGhost
import Derived.Lib.SmallJoins
import Derived.Shelf.SlMaps.Clone
/- bins in memory: the map's keys and elements; walks of New, Get, Copy's like, right. Condition: the sentinels that are read lie as named (SomeS). -/
namespace Go.Proofs.YtpanoplcamdnkaaGreatDoor
open Go.RowKit Go.Lib Go.Maps Go.WideMaps

theorem laidOutA : laidOutB Tryz.prog = true := by kernel_rfl
theorem lawI : Keyed Tryz.prog 47 := Keyed.of_law (deep_law_laid laidOutA (m := 2) (by omega) (of_decide_eq_true (by kernel_rfl)) (by kernel_rfl) (by rw [Tryz.underlying47]))
theorem keyI {x : Idn} (h : IdOk x) : keyOf Tryz.prog 47 (idV x) = some (idLit x) := by
  have h1 : Tryz.prog.keyType 47 = true := by kernel_rfl
  have h2 : (idV x).formed Tryz.prog 47 = true := by
    unfold idV Value.formed
    rw [Tryz.underlying47]
    simp [show Tryz.prog.cellsOf 47 = 2 by kernel_rfl]
  obtain ⟨m, hm⟩ : ∃ m, Tryz.prog.types.size + 1 = m + 2 := ⟨Tryz.prog.types.size - 1, by have : 0 < Tryz.prog.types.size := of_decide_eq_true (by kernel_rfl); omega⟩
  have w1 : (Lit.int .u32 (x.1 : Int)).wf = true := by
    have := h.1
    simp [Lit.wf, IntKind.min, IntKind.max, IntKind.bits, IntKind.signed]
    omega
  have w2 : (Lit.int .i64 x.2).wf = true := by
    have := h.2
    simp [Lit.wf, IntKind.min, IntKind.max, IntKind.bits, IntKind.signed]
    omega
  have h3 : Tryz.prog.keyLits (Tryz.prog.types.size + 1) 47 [.int .u32 (x.1 : Int), .int .i64 x.2] = some [.int .u32 (x.1 : Int), .int .i64 x.2] := by
    rw [hm]
    simp [Program.keyLits, Tryz.underlying47, Tryz.underlying45, Tryz.underlying3, show Tryz.prog.cellsOf 47 = 2 by kernel_rfl, show Tryz.prog.cellsOf 45 = 1 by kernel_rfl, show Tryz.prog.cellsOf 3 = 1 by kernel_rfl, w1, w2]
  unfold keyOf
  rw [Tryz.underlying47]
  simp only [h1, h2, Bool.and_self, if_true]
  show (Tryz.prog.keyLits (Tryz.prog.types.size + 1) 47 [.int .u32 (x.1 : Int), .int .i64 x.2]).map _ = _
  rw [h3]; rfl
/-- what is held, as a value -/
def hldC (h : Hld) : List Value := [.int .u32 (h.id.1 : Int), .int .i64 h.id.2, .int .i64 h.uses, .string (bs h.text)]
abbrev hldV (h : Hld) : Value := .agg #[.int .u32 (h.id.1 : Int), .int .i64 h.id.2, .int .i64 h.uses, .string (bs h.text)]
def HldW (h : Hld) : Prop := IdOk h.id ∧ -9223372036854775808 ≤ h.uses ∧ h.uses ≤ 9223372036854775807
instance (h : Hld) : Decidable (HldW h) := by unfold HldW IdOk; infer_instance
def hldElem : Value → Option (DataW Unit × List MemPlace)
  | .agg cs => match cs.toList with
    | [.int .u32 p, .int .i64 l, .int .i64 u, .string s] => if 0 ≤ p ∧ HldW ⟨(p.toNat, l), u, s.data.toList⟩ then some (hldU ⟨(p.toNat, l), u, s.data.toList⟩, []) else none
    | _ => none
  | _ => none
theorem hldElem_mk {h : Hld} (hw : HldW h) : hldElem (hldV h) = some (hldU h, []) := by
  show (if 0 ≤ (h.id.1 : Int) ∧ HldW ⟨(((h.id.1 : Int)).toNat, h.id.2), h.uses, (bs h.text).data.toList⟩ then some (hldU ⟨(((h.id.1 : Int)).toNat, h.id.2), h.uses, (bs h.text).data.toList⟩, []) else none) = _
  rw [show ((h.id.1 : Int)).toNat = h.id.1 by omega, bs_toList]
  exact if_pos ⟨by omega, hw⟩
theorem hldElem_inv {v : Value} {z : DataW Unit × List MemPlace} (hz : hldElem v = some z) : ∃ h, v = hldV h ∧ z = (hldU h, []) ∧ HldW h := by
  unfold hldElem at hz
  split at hz
  · next cs =>
    split at hz
    · next p l u s hcs =>
      split at hz
      · next hw =>
        injection hz with hz
        refine ⟨⟨(p.toNat, l), u, s.data.toList⟩, ?_, hz.symm, hw.2⟩
        have e : cs = #[.int .u32 p, .int .i64 l, .int .i64 u, .string s] := by rw [← Array.toArray_toList (xs := cs), hcs]
        rw [e]
        show _ = Value.agg #[.int .u32 ((p.toNat : Nat) : Int), .int .i64 l, .int .i64 u, .string (bs s.data.toList)]
        rw [bs_of, show ((p.toNat : Nat) : Int) = p by have := hw.1; omega]
      · cases hz
    · cases hz
  · cases hz
theorem hldU_inj {h k : Hld} (e : hldU h = hldU k) : h = k := by
  unfold hldU at e
  injection e with e
  injection e with e1 e
  injection e with e2 e
  injection e with e3 e
  injection e with e4 _
  injection e1 with e1
  injection e2 with e2
  injection e3 with e3
  injection e4 with e4
  injection e1 with _ e1
  injection e2 with _ e2
  injection e3 with _ e3
  injection e4 with e4
  obtain ⟨⟨p, l⟩, u, s⟩ := h
  obtain ⟨⟨p', l'⟩, u', s'⟩ := k
  simp only at e1 e2 e3 e4
  have e1' : p = p' := by omega
  subst e1'; subst e2; subst e3; subst e4
  rfl
theorem zeroH (w : World) : (zeroValue 82).run Tryz.prog w = .ok (.agg #[.int .u32 0, .int .i64 0, .int .i64 0, .string ByteArray.empty]) w := by kernel_rfl
theorem hldZ_w : HldW hldZ := by decide
theorem zeroHld : hldElem (.agg #[.int .u32 0, .int .i64 0, .int .i64 0, .string ByteArray.empty]) = some (hldU hldZ, []) := hldElem_mk hldZ_w
/-- a bin in block b, its map in block mb -/
structure OBin (b mb : Nat) (L : HldL) (w : World) : Prop where
  row : w.heap[b]? = some (.cells #[.map (some mb)] 119 (0, 0))
  map : w.ownsMap Tryz.prog 47 hldElem mb L.length (dataB L)
  ne : b ≠ mb
theorem OBin.lt {b mb : Nat} {L : HldL} {w : World} (h : OBin b mb L w) : b < w.heap.size := (Array.getElem?_eq_some_iff.1 h.row).1
theorem OBin.cell {b mb : Nat} {L : HldL} {w : World} (h : OBin b mb L w) : w.cell? ⟨b, 0, none⟩ = some (.map (some mb)) := by rw [cell_of_row w b 0 _ _ _ h.row]; rfl
theorem OBin.keep {b mb : Nat} {L : HldL} {w w' : World} (h : OBin b mb L w) (h1 : w'.heap[b]? = w.heap[b]?) (h2 : w'.heap[mb]? = w.heap[mb]?) : OBin b mb L w' := by
  refine ⟨h1.trans h.row, ?_, h.ne⟩
  obtain ⟨es, clock, e1, e2⟩ := h.map
  exact ⟨es, clock, h2.trans e1, e2⟩
theorem OBin.below {b mb : Nat} {L : HldL} {w w' : World} (h : OBin b mb L w) (hb : Below w.heap.size w w') : OBin b mb L w' :=
  h.keep (hb.block b h.lt) (hb.block mb h.map.lt)
theorem OBin.grown {b mb : Nat} {L : HldL} {w w' : World} {r : Option Nat} (h : OBin b mb L w) (hg : w.grownBy w' r) (h1 : some b ≠ r) (h2 : some mb ≠ r) : OBin b mb L w' :=
  h.keep (hg.block b h.lt h1) (hg.block mb h.map.lt h2)
/-- the map's bound is its size -/
theorem ownsMap_tight {w : World} {mb n : Nat} {L : HldL} (h : w.ownsMap Tryz.prog 47 hldElem mb n (dataB L)) : w.ownsMap Tryz.prog 47 hldElem mb L.length (dataB L) := by
  obtain ⟨es, clock, hb, F, _, hD⟩ := h
  refine ⟨es, clock, hb, F, ?_, hD⟩
  have e : Maps.size (dataB L) = es.size := by rw [hD]; simp [Maps.size, length_sorted]
  rw [size_dataB] at e
  omega
/-- what lies at a key -/
def atB (L : HldL) (x : Idn) : Hld := (getB L x).getD hldZ
theorem OBin.look {b mb : Nat} {L : HldL} {w : World} (h : OBin b mb L w) (hL : ∀ y ∈ L, IdOk y.id) {x : Idn} (hx : IdOk x) :
    (Instr.lookup 117 (.map (some mb)) (idV x) true).run Tryz.prog w = .ok (.tuple #[hldV (atB L x), .bool (getB L x).isSome]) w ∧ HldW (atB L x) := by
  obtain ⟨v, ps, hr, hv⟩ := h.map.look_ok lawI Tryz.underlying117 (zeroH w) zeroHld (keyI hx)
  obtain ⟨y, rfl, e, hw⟩ := hldElem_inv hv
  injection e with e _
  rw [atKey_dataB hL hx] at e
  obtain rfl := hldU_inj e
  exact ⟨by rw [hr, has_dataB hL hx]; rfl, hw⟩
theorem OBin.look_some {b mb : Nat} {L : HldL} {w : World} (h : OBin b mb L w) (hL : ∀ y ∈ L, IdOk y.id) {x : Idn} (hx : IdOk x) {o : Hld} (hg : getB L x = some o) :
    (Instr.lookup 117 (.map (some mb)) (idV x) true).run Tryz.prog w = .ok (.tuple #[hldV o, .bool true]) w := by
  have := (h.look hL hx).1
  unfold atB at this
  rw [hg] at this
  exact this
theorem OBin.look_none {b mb : Nat} {L : HldL} {w : World} (h : OBin b mb L w) (hL : ∀ y ∈ L, IdOk y.id) {x : Idn} (hx : IdOk x) (hg : getB L x = none) :
    (Instr.lookup 117 (.map (some mb)) (idV x) true).run Tryz.prog w = .ok (.tuple #[hldV hldZ, .bool false]) w := by
  have := (h.look hL hx).1
  unfold atB at this
  rw [hg] at this
  exact this
theorem OBin.len {b mb : Nat} {L : HldL} {w : World} (h : OBin b mb L w) : (Builtin.len_ #[117] 3 #[.map (some mb)]).run Tryz.prog w = .ok (.int .i64 (L.length : Int)) w := by
  have := h.map.len Tryz.underlying117 3
  rw [size_dataB] at this
  exact this
theorem gb_of_below {w w' : World} {r : Option Nat} (h : Below w.heap.size w w') : w.grownBy w' r := ⟨h.os, h.tape, h.output, h.size, fun k hk _ => h.block k hk⟩
/-- the bin with a piece more, or another one at its key -/
theorem OBin.put {b mb : Nat} {L : HldL} {w w' : World} (h : OBin b mb L w) (hs : SrtB L) (hL : ∀ y ∈ L, IdOk y.id ∧ 0 ≤ y.id.2) (o : Hld) (ho : IdOk o.id ∧ 0 ≤ o.id.2) {n : Nat}
    (hm : w'.ownsMap Tryz.prog 47 hldElem mb n ((dataB L).put (idLit o.id) (hldU o))) (hg : w.grownBy w' (some mb)) : OBin b mb (setB o L) w' := by
  refine ⟨(hg.block b h.lt (fun e => h.ne (Option.some.inj e))).trans h.row, ?_, h.ne⟩
  rw [put_dataB hs hL o ho] at hm
  exact ownsMap_tight hm
set_option maxRecDepth 100000 in
theorem BnNew_any (w : World) : Calls Tryz.prog 20 #[] w fun e w' => ∃ b mb, e = .returned (.pointer (some ⟨b, 0, none⟩)) ∧ OBin b mb [] w' ∧ w.heap.size ≤ b ∧ w.heap.size ≤ mb ∧ Below w.heap.size w w' := by
  have hmm := @run_makeMap Tryz.prog
  go_enter Tryz.func20, Tryz.ntmps20
  go_wp2
  go_ret
  have h1 := World.ownsMap_made w Tryz.prog 47 hldElem
  refine ⟨_, w.heap.size, rfl, ⟨by have := heap_alloc_new (w.alloc (.map #[] 0)) (.cells #[.map (some w.heap.size)] 119); simpa using this, h1.alloc _, by simp⟩, by simp, Nat.le_refl _, ((Below.refl _ _).alloc (Nat.le_refl _) _).alloc (by simp) _⟩
theorem BnRight_any (s : ByteArray) (hs : s.size ≤ 1000000000) (w : World) : Calls Tryz.prog 65 #[.string s] w fun e w' => e = .returned (.bool (rightB s.data.toList)) ∧ w = w' := by
  have hz := size_toList s
  by_cases h1 : 1 ≤ s.size
  · have h1i : (s.size : Int) ≥ 1 := by omega
    by_cases h2 : s.size ≤ 64
    · have h2i : (s.size : Int) ≤ 64 := by omega
      have HR : Hid (rightB s.data.toList = true) := Lib.hid (rightB_iff.2 (by omega))
      clear h1 h2 hz
      go_enter Tryz.func65, Tryz.ntmps65
      go_wp2
      go_ret
      exact ⟨by rw [HR.out]; rfl, rfl⟩
    · have h2i : ¬ (s.size : Int) ≤ 64 := by omega
      have HR : Hid (rightB s.data.toList = false) := Lib.hid (by rw [Bool.eq_false_iff]; intro e; have := rightB_iff.1 e; omega)
      clear h1 h2 hz
      go_enter Tryz.func65, Tryz.ntmps65
      go_wp2
      go_ret
      exact ⟨by rw [HR.out]; rfl, rfl⟩
  · have h1i : ¬ (s.size : Int) ≥ 1 := by omega
    have HR : Hid (rightB s.data.toList = false) := Lib.hid (by rw [Bool.eq_false_iff]; intro e; have := rightB_iff.1 e; omega)
    clear h1 hz
    go_enter Tryz.func65, Tryz.ntmps65
    go_wp2
    go_ret
    exact ⟨by rw [HR.out]; rfl, rfl⟩
/-- getting: a text, or an error -/
def getRes (L : HldL) (x : Idn) : Bytes × Int := match getB L x with
  | some h => (h.text, 0)
  | none => ([], 5)
end Go.Proofs.YtpanoplcamdnkaaGreatDoor
/- bins in memory: walk of Put. Condition: the sentinels that are read lie as named (SomeS). -/
namespace Go.Proofs.YtpanoplcamdnkaaGreatDoor
open Go.RowKit Go.Lib Go.Maps Go.WideMaps

theorem gb_setNew {w w1 : World} {r : Option Nat} {b : Nat} (h : w.grownBy w1 r) (hb : w.heap.size ≤ b) (j : Nat) (v : Value) : w.grownBy (w1.setCell ⟨b, j, none⟩ v) r :=
  ⟨h.os, h.tape, h.output, by have := h.size; simpa [World.setCell] using this, fun i hi hne => (set_keepI (by omega)).trans (h.block i hi hne)⟩
theorem OBin.drew {b mb : Nat} {L : HldL} {w : World} (h : OBin b mb L w) : OBin b mb L w.drew := h.keep rfl rfl
theorem OBin.set {b mb d : Nat} {L : HldL} {w : World} (h : OBin b mb L w) (h1 : b ≠ d) (h2 : mb ≠ d) (j : Nat) (v : Value) : OBin b mb L (w.setCell ⟨d, j, none⟩ v) :=
  h.keep (set_keepI h1) (set_keepI h2)
def PutPost (a : Nat → Addr) (b mb : Nat) (L : HldL) (t : Bytes) (w : World) (e : Ending) (w' : World) : Prop :=
  ∃ r, e = .returned (.tuple #[idV (putB t L).2.1, .bool (putB t L).2.2.1, r]) ∧ ES a r (putB t L).2.2.2 ∧ OBin b mb (putB t L).1 w' ∧ w.grownBy w' (some mb)
theorem put_bad {a : Nat → Addr} {b mb : Nat} {L : HldL} {t : Bytes} {w w' : World} {c : Int} {r : Value} (h : putB t L = (L, (0, 0), false, c)) (hr : ES a r c) (hB : OBin b mb L w') (hb : Below w.heap.size w w') :
    PutPost a b mb L t w (.returned (.tuple #[idV (0, 0), .bool false, r])) w' := ⟨r, by rw [h], by rw [h]; exact hr, by rw [h]; exact hB, gb_of_below hb⟩
theorem put_ok {a : Nat → Addr} {b mb : Nat} {L L' : HldL} {t : Bytes} {w w' : World} {x : Idn} {q : Bool} {r : Value} (h : putB t L = (L', x, q, 0)) (hr : ES a r 0) (hB : OBin b mb L' w') (hg : w.grownBy w' (some mb)) :
    PutPost a b mb L t w (.returned (.tuple #[idV x, .bool q, r])) w' := ⟨r, by rw [h], by rw [h]; exact hr, by rw [h]; exact hB, hg⟩
set_option maxRecDepth 100000 in
set_option maxHeartbeats 2000000 in
theorem BnPut_any (a : Nat → Addr) (b mb : Nat) (L : HldL) (n : Int) (hn : n ≤ 4611686018427387904) (hL : BinOk n L) (hl : L.length ≤ 1000000) (t : Bytes) (ht : t.length ≤ 1000000) (w : World) (hB : OBin b mb L w) (hs : SomeS [1, 6, 9] a w) :
    Calls Tryz.prog 22 #[.pointer (some ⟨b, 0, none⟩), VT t] w (PutPost a b mb L t w) := by
  have hb0 : Below w.heap.size w (w.alloc (.cells #[.int .u32 0, .int .i64 0] 47)) := (Below.refl _ w).alloc (Nat.le_refl _) _
  have HB0 := Lib.hid hb0
  have HBIN := Lib.hid hB
  have HB0B := Lib.hid (hB.below hb0)
  have HBR := Lib.hid (Box2.mk' w (.int .u32 0) (.int .i64 0) 47)
  have HS : Hid (∀ w', Below w.heap.size w w' → SomeS [1, 6, 9] a w') := Lib.hid (fun w' h => hs.below h)
  have hg1 : 3 < w.heap.size := World.block_lt_of_cell? w _ (hs 1 (by simp))
  have hg6 : 1 < w.heap.size := World.block_lt_of_cell? w _ (hs 6 (by simp))
  have hg9 : 4 < w.heap.size := World.block_lt_of_cell? w _ (hs 9 (by simp))
  have hbl := hB.lt
  have hml := hB.map.lt
  have hsz : (bs t).size ≤ maxLen := by rw [bs_size]; unfold maxLen; omega
  have HLEN : Hid (L.length < maxLen) := Lib.hid (by unfold maxLen; omega)
  have HOK := Lib.hid hL
  obtain ⟨x, hx⟩ : ∃ x, idOf t = x := ⟨_, rfl⟩
  have hix : IdOk x ∧ 0 ≤ x.2 := by
    rw [← hx]
    exact ⟨⟨prOf_lt _, by show (-9223372036854775808 : Int) ≤ ((t.length : Nat) : Int); omega, by show ((t.length : Nat) : Int) ≤ _; omega⟩, by show (0 : Int) ≤ ((t.length : Nat) : Int); omega⟩
  have HIX := Lib.hid hix
  have HKEY := Lib.hid (keyI hix.1)
  have HID : Hid (∀ w, Calls Tryz.prog 24 #[.string (bs t)] w fun e w' => e = .returned (.agg #[.int .u32 (x.1 : Int), .int .i64 x.2]) ∧ Below w.heap.size w w') := Lib.hid (fun w => by
    have := ID_any (bs t) w hsz
    rw [bs_toList, bs_size] at this
    rw [← hx]; exact this)
  have hrt : ∀ y, rightB t = y → ∀ w, Calls Tryz.prog 65 #[.string (bs t)] w fun e w' => e = .returned (.bool y) ∧ w = w' := fun y hy w => by
    have := BnRight_any (bs t) (by rw [bs_size]; omega) w
    rw [bs_toList, hy] at this
    exact this
  have HRTa := Lib.hid hrt
  clear hb0 hs hB hL hrt hix hsz
  cases hr : rightB t with
  | false =>
    have HR : Hid (putB t L = (L, (0, 0), false, 2)) := Lib.hid (if_pos hr)
    have HRT := Lib.hid (HRTa.out false hr)
    cases hg : getB L x with
    | some o =>
      have LK := Lib.hid (fun w' (h : OBin b mb L w') => h.look_some HOK.out.idok HIX.out.1 hg)
      clear hr hg hx
      go_enter Tryz.func22, Tryz.ntmps22
      go_wp2_with fail
      generalize w.alloc (.cells #[.int .u32 0, .int .i64 0] 47) = w0 at *
      refine (HID.out w0).mono ?_
      rintro e w1 ⟨rfl, hb1⟩
      have hX1 : Box2 w1.heap.size (.int .u32 (x.1 : Int)) (.int .i64 x.2) (w1.alloc (.cells #[.int .u32 (x.1 : Int), .int .i64 x.2] 47)) := Box2.mk' _ _ _ _
      have hb2 := hb1.alloc hb1.size (.cells #[.int .u32 (x.1 : Int), .int .i64 x.2] 47)
      have hlt1 : w.heap.size < w1.heap.size := Nat.lt_of_lt_of_le HBR.out.lt hb1.size
      go_wp2_with fail
      generalize w1.alloc (.cells #[.int .u32 (x.1 : Int), .int .i64 x.2] 47) = w2 at *
      have HX := Lib.hid hX1
      have HBB := Lib.hid (HB0B.out.below hb2)
      have HB2 := Lib.hid (HB0.out.trans (hb2.mono HB0.out.size))
      have HBR2 := Lib.hid (HBR.out.below hb2 HBR.out.lt)
      clear hX1 hb1 hb2
      go_wp2
      have hS0 : Below w2.heap.size w2 w2.drew := (Below.refl _ _).drew
      refine region_S (fun w' => Below w2.heap.size w2 w') 11 (by kernel_rfl) (by kernel_rfl) ?_
      refine take_S 0 rfl (by kernel_rfl) (by kernel_rfl) hS0 (fun w' hS => by go_simp; rfl) ?_
      refine take_S 1 rfl (by kernel_rfl) (by kernel_rfl) hS0 (fun w' hS => by go_simp; rfl) ?_
      refine take_S 2 rfl (by kernel_rfl) (by kernel_rfl) hS0 (fun w' hS => by go_simp; rfl) ?_
      refine take_S 3 rfl (by kernel_rfl) (by kernel_rfl) hS0 (fun w' hS => by have A0 := (HBB.out.below hS).cell; go_simp; rfl) ?_
      refine take_S 4 rfl (by kernel_rfl) (by kernel_rfl) hS0 (fun w' hS => by have A0 := (HX.out.below hS HX.out.lt).c0; have A1 := (HX.out.below hS HX.out.lt).c1; go_simp; rfl) ?_
      refine take_S 5 rfl (by kernel_rfl) (by kernel_rfl) hS0 (fun w' hS => by have A0 := LK.out w' (HBB.out.below hS); go_simp; rfl) ?_
      refine take_S 6 rfl (by kernel_rfl) (by kernel_rfl) hS0 (fun w' hS => by go_simp; rfl) ?_
      refine take_S 7 rfl (by kernel_rfl) (by kernel_rfl) hS0 (fun w' hS => by go_simp; rfl) ?_
      refine take_S 8 rfl (by kernel_rfl) (by kernel_rfl) hS0 (fun w' hS => by go_simp; rfl) ?_
      refine carry_S 9 rfl (by kernel_rfl) (by decide) (by kernel_rfl) (fun K hK => ?_)
      go_simp
      have hS5 : Below w2.heap.size w2 ((w2.alloc (.cells #[.int .u32 0, .int .i64 0, .int .i64 0, .string ⟨#[]⟩] 82)).drew) := ((Below.refl _ w2).alloc (Nat.le_refl _) _).drew
      have hbh : Box4 w2.heap.size (.int .u32 0) (.int .i64 0) (.int .i64 0) (.string ⟨#[]⟩) ((w2.alloc (.cells #[.int .u32 0, .int .i64 0, .int .i64 0, .string ⟨#[]⟩] 82)).drew) := Box4.mk' w2.drew _ _ _ _ _
      refine hK _ _ hS5 ?_
      clear hK K
      try simp only [Act.put, List.getElem_toArray, List.getElem_cons_succ, List.getElem_cons_zero, List.setIfInBounds_toArray, List.set_cons_zero, List.set_cons_succ]
      generalize (w2.alloc (.cells #[.int .u32 0, .int .i64 0, .int .i64 0, .string ⟨#[]⟩] 82)).drew = w6a at *
      have HBH0 := Lib.hid hbh
      obtain ⟨b0, b1, b2, b3, hf⟩ := hbh
      have f0 := hf 0
      have f1 := hf 1
      have f2 := hf 2
      have f3 := hf 3
      refine carry_S 10 rfl (by kernel_rfl) (by decide) (by kernel_rfl) (fun K hK => ?_)
      go_simp
      have hS6 := below_set4 hS5 (Nat.le_refl _) (.int .u32 (o.id.1 : Int)) (.int .i64 o.id.2) (.int .i64 o.uses) (.string (bs o.text))
      refine hK _ _ hS6 (forced_S (by kernel_rfl) ?_)
      clear hK K
      try simp only [Act.put, List.getElem_toArray, List.getElem_cons_succ, List.getElem_cons_zero, List.setIfInBounds_toArray, List.set_cons_zero, List.set_cons_succ]
      simp only [List.drop_succ_cons, List.drop_zero]
      have HBH := Lib.hid (HBH0.out.set (.int .u32 (o.id.1 : Int)) (.int .i64 o.id.2) (.int .i64 o.uses) (.string (bs o.text)))
      generalize ((((w6a.setCell ⟨w2.heap.size, 0, none⟩ (.int .u32 (o.id.1 : Int))).setCell ⟨w2.heap.size, 1, none⟩ (.int .i64 o.id.2)).setCell ⟨w2.heap.size, 2, none⟩ (.int .i64 o.uses)).setCell ⟨w2.heap.size, 3, none⟩ (.string (bs o.text))) = w6 at *
      clear hS5 hS0 HBH0 b0 b1 b2 b3 hf f0 f1 f2 f3
      obtain ⟨h0, h1, h2, h3, _⟩ := HBH.out
      have HB6 := Lib.hid (HB2.out.trans (hS6.mono HB2.out.size))
      have HBB6 := Lib.hid (HBB.out.below hS6)
      have HX6 := Lib.hid (HX.out.below hS6 HX.out.lt)
      have HBR6 := Lib.hid (HBR2.out.below hS6 HBR2.out.lt)
      clear hS6
      go_wp2_with fail
      refine (HRT.out _).mono ?_
      rintro e w7 ⟨rfl, rfl⟩
      obtain ⟨r0, r1, g0, g1⟩ := HBR6.out
      obtain ⟨t0, t1, _⟩ := HBR6.out.rd (.int .u32 0) (.int .i64 0)
      have s0 : w6.cell? ⟨3, 0, none⟩ = some (sval a 1) := (HS.out w6 HB6.out) 1 (by simp)
      unfold sval at s0
      have hne : ¬ (3 = w.heap.size) := by have := hg1; omega
      have HB9 := Lib.hid (below_set2 HB6.out (Nat.le_refl _) (.int .u32 0) (.int .i64 0)).drew
      go_wp2
      go_region
      go_wp2
      refine bodyPost_ret (v := .tuple #[idV (0, 0), .bool false, .iface 361 (.pointer (some (a 1)))]) (by simp [results, Tryz.results22, go_sem, t0, t1]) rfl ?_
      exact put_bad HR.out (ES.sent a 1 (by decide)) (HBIN.out.below HB9.out) HB9.out
    | none =>
      have LK := Lib.hid (fun w' (h : OBin b mb L w') => h.look_none HOK.out.idok HIX.out.1 hg)
      clear hr hg hx
      go_enter Tryz.func22, Tryz.ntmps22
      go_wp2_with fail
      generalize w.alloc (.cells #[.int .u32 0, .int .i64 0] 47) = w0 at *
      refine (HID.out w0).mono ?_
      rintro e w1 ⟨rfl, hb1⟩
      have hX1 : Box2 w1.heap.size (.int .u32 (x.1 : Int)) (.int .i64 x.2) (w1.alloc (.cells #[.int .u32 (x.1 : Int), .int .i64 x.2] 47)) := Box2.mk' _ _ _ _
      have hb2 := hb1.alloc hb1.size (.cells #[.int .u32 (x.1 : Int), .int .i64 x.2] 47)
      have hlt1 : w.heap.size < w1.heap.size := Nat.lt_of_lt_of_le HBR.out.lt hb1.size
      go_wp2_with fail
      generalize w1.alloc (.cells #[.int .u32 (x.1 : Int), .int .i64 x.2] 47) = w2 at *
      have HX := Lib.hid hX1
      have HBB := Lib.hid (HB0B.out.below hb2)
      have HB2 := Lib.hid (HB0.out.trans (hb2.mono HB0.out.size))
      have HBR2 := Lib.hid (HBR.out.below hb2 HBR.out.lt)
      clear hX1 hb1 hb2
      go_wp2
      have hS0 : Below w2.heap.size w2 w2.drew := (Below.refl _ _).drew
      refine region_S (fun w' => Below w2.heap.size w2 w') 11 (by kernel_rfl) (by kernel_rfl) ?_
      refine take_S 0 rfl (by kernel_rfl) (by kernel_rfl) hS0 (fun w' hS => by go_simp; rfl) ?_
      refine take_S 1 rfl (by kernel_rfl) (by kernel_rfl) hS0 (fun w' hS => by go_simp; rfl) ?_
      refine take_S 2 rfl (by kernel_rfl) (by kernel_rfl) hS0 (fun w' hS => by go_simp; rfl) ?_
      refine take_S 3 rfl (by kernel_rfl) (by kernel_rfl) hS0 (fun w' hS => by have A0 := (HBB.out.below hS).cell; go_simp; rfl) ?_
      refine take_S 4 rfl (by kernel_rfl) (by kernel_rfl) hS0 (fun w' hS => by have A0 := (HX.out.below hS HX.out.lt).c0; have A1 := (HX.out.below hS HX.out.lt).c1; go_simp; rfl) ?_
      refine take_S 5 rfl (by kernel_rfl) (by kernel_rfl) hS0 (fun w' hS => by have A0 := LK.out w' (HBB.out.below hS); go_simp; rfl) ?_
      refine take_S 6 rfl (by kernel_rfl) (by kernel_rfl) hS0 (fun w' hS => by go_simp; rfl) ?_
      refine take_S 7 rfl (by kernel_rfl) (by kernel_rfl) hS0 (fun w' hS => by go_simp; rfl) ?_
      refine take_S 8 rfl (by kernel_rfl) (by kernel_rfl) hS0 (fun w' hS => by go_simp; rfl) ?_
      refine carry_S 9 rfl (by kernel_rfl) (by decide) (by kernel_rfl) (fun K hK => ?_)
      go_simp
      have hS5 : Below w2.heap.size w2 ((w2.alloc (.cells #[.int .u32 0, .int .i64 0, .int .i64 0, .string ⟨#[]⟩] 82)).drew) := ((Below.refl _ w2).alloc (Nat.le_refl _) _).drew
      have hbh : Box4 w2.heap.size (.int .u32 0) (.int .i64 0) (.int .i64 0) (.string ⟨#[]⟩) ((w2.alloc (.cells #[.int .u32 0, .int .i64 0, .int .i64 0, .string ⟨#[]⟩] 82)).drew) := Box4.mk' w2.drew _ _ _ _ _
      refine hK _ _ hS5 ?_
      clear hK K
      try simp only [Act.put, List.getElem_toArray, List.getElem_cons_succ, List.getElem_cons_zero, List.setIfInBounds_toArray, List.set_cons_zero, List.set_cons_succ]
      generalize (w2.alloc (.cells #[.int .u32 0, .int .i64 0, .int .i64 0, .string ⟨#[]⟩] 82)).drew = w6a at *
      have HBH0 := Lib.hid hbh
      obtain ⟨b0, b1, b2, b3, hf⟩ := hbh
      have f0 := hf 0
      have f1 := hf 1
      have f2 := hf 2
      have f3 := hf 3
      refine carry_S 10 rfl (by kernel_rfl) (by decide) (by kernel_rfl) (fun K hK => ?_)
      go_simp
      have hS6 := below_set4 hS5 (Nat.le_refl _) (.int .u32 (hldZ.id.1 : Int)) (.int .i64 hldZ.id.2) (.int .i64 hldZ.uses) (.string (bs hldZ.text))
      refine hK _ _ hS6 (forced_S (by kernel_rfl) ?_)
      clear hK K
      try simp only [Act.put, List.getElem_toArray, List.getElem_cons_succ, List.getElem_cons_zero, List.setIfInBounds_toArray, List.set_cons_zero, List.set_cons_succ]
      simp only [List.drop_succ_cons, List.drop_zero]
      have HBH := Lib.hid (HBH0.out.set (.int .u32 (hldZ.id.1 : Int)) (.int .i64 hldZ.id.2) (.int .i64 hldZ.uses) (.string (bs hldZ.text)))
      generalize ((((w6a.setCell ⟨w2.heap.size, 0, none⟩ (.int .u32 (hldZ.id.1 : Int))).setCell ⟨w2.heap.size, 1, none⟩ (.int .i64 hldZ.id.2)).setCell ⟨w2.heap.size, 2, none⟩ (.int .i64 hldZ.uses)).setCell ⟨w2.heap.size, 3, none⟩ (.string (bs hldZ.text))) = w6 at *
      clear hS5 hS0 HBH0 b0 b1 b2 b3 hf f0 f1 f2 f3
      obtain ⟨h0, h1, h2, h3, _⟩ := HBH.out
      have HB6 := Lib.hid (HB2.out.trans (hS6.mono HB2.out.size))
      have HBB6 := Lib.hid (HBB.out.below hS6)
      have HX6 := Lib.hid (HX.out.below hS6 HX.out.lt)
      have HBR6 := Lib.hid (HBR2.out.below hS6 HBR2.out.lt)
      clear hS6
      go_wp2_with fail
      refine (HRT.out _).mono ?_
      rintro e w7 ⟨rfl, rfl⟩
      obtain ⟨r0, r1, g0, g1⟩ := HBR6.out
      obtain ⟨t0, t1, _⟩ := HBR6.out.rd (.int .u32 0) (.int .i64 0)
      have s0 : w6.cell? ⟨3, 0, none⟩ = some (sval a 1) := (HS.out w6 HB6.out) 1 (by simp)
      unfold sval at s0
      have hne : ¬ (3 = w.heap.size) := by have := hg1; omega
      have HB9 := Lib.hid (below_set2 HB6.out (Nat.le_refl _) (.int .u32 0) (.int .i64 0)).drew
      go_wp2
      go_region
      go_wp2
      refine bodyPost_ret (v := .tuple #[idV (0, 0), .bool false, .iface 361 (.pointer (some (a 1)))]) (by simp [results, Tryz.results22, go_sem, t0, t1]) rfl ?_
      exact put_bad HR.out (ES.sent a 1 (by decide)) (HBIN.out.below HB9.out) HB9.out
  | true =>
    have HRT := Lib.hid (HRTa.out true hr)
    have hr' : ¬ rightB t = false := by rw [hr]; simp
    cases hg : getB L x with
    | some o =>
      have LK := Lib.hid (fun w' (h : OBin b mb L w') => h.look_some HOK.out.idok HIX.out.1 hg)
      have hou := (HOK.out.all o (getB_mem hg).1).uses
      by_cases he : o.text = t
      · have e1 : ((bs o.text).toList == (bs t).toList) = true := by rw [he]; simp
        have e2 : ((bs o.text).toList != (bs t).toList) = false := by rw [he]; simp
        have HR : Hid (putB t L = (setB ⟨x, o.uses + 1, t⟩ L, x, false, 0)) := Lib.hid (by unfold putB; rw [if_neg hr', hx, hg]; simp only; rw [if_neg (not_not_intro he)])
        have HWR : Hid (IntKind.i64.wrap (o.uses + 1) = o.uses + 1) := Lib.hid (IntWalk.i64_in _ (by omega))
        have HHW : Hid (HldW ⟨x, o.uses + 1, t⟩) := Lib.hid ⟨HIX.out.1, by show -9223372036854775808 ≤ o.uses + 1; omega, by show o.uses + 1 ≤ 9223372036854775807; omega⟩
        have u0 := hou.1
        have u1 : o.uses ≤ 4611686018427387904 := by omega
        clear hr hr' hg hx he hou
        go_enter Tryz.func22, Tryz.ntmps22
        go_wp2_with fail
        generalize w.alloc (.cells #[.int .u32 0, .int .i64 0] 47) = w0 at *
        refine (HID.out w0).mono ?_
        rintro e w1 ⟨rfl, hb1⟩
        have hX1 : Box2 w1.heap.size (.int .u32 (x.1 : Int)) (.int .i64 x.2) (w1.alloc (.cells #[.int .u32 (x.1 : Int), .int .i64 x.2] 47)) := Box2.mk' _ _ _ _
        have hb2 := hb1.alloc hb1.size (.cells #[.int .u32 (x.1 : Int), .int .i64 x.2] 47)
        have hlt1 : w.heap.size < w1.heap.size := Nat.lt_of_lt_of_le HBR.out.lt hb1.size
        go_wp2_with fail
        generalize w1.alloc (.cells #[.int .u32 (x.1 : Int), .int .i64 x.2] 47) = w2 at *
        have HX := Lib.hid hX1
        have HBB := Lib.hid (HB0B.out.below hb2)
        have HB2 := Lib.hid (HB0.out.trans (hb2.mono HB0.out.size))
        have HBR2 := Lib.hid (HBR.out.below hb2 HBR.out.lt)
        clear hX1 hb1 hb2
        go_wp2
        have hS0 : Below w2.heap.size w2 w2.drew := (Below.refl _ _).drew
        refine region_S (fun w' => Below w2.heap.size w2 w') 11 (by kernel_rfl) (by kernel_rfl) ?_
        refine take_S 0 rfl (by kernel_rfl) (by kernel_rfl) hS0 (fun w' hS => by go_simp; rfl) ?_
        refine take_S 1 rfl (by kernel_rfl) (by kernel_rfl) hS0 (fun w' hS => by go_simp; rfl) ?_
        refine take_S 2 rfl (by kernel_rfl) (by kernel_rfl) hS0 (fun w' hS => by go_simp; rfl) ?_
        refine take_S 3 rfl (by kernel_rfl) (by kernel_rfl) hS0 (fun w' hS => by have A0 := (HBB.out.below hS).cell; go_simp; rfl) ?_
        refine take_S 4 rfl (by kernel_rfl) (by kernel_rfl) hS0 (fun w' hS => by have A0 := (HX.out.below hS HX.out.lt).c0; have A1 := (HX.out.below hS HX.out.lt).c1; go_simp; rfl) ?_
        refine take_S 5 rfl (by kernel_rfl) (by kernel_rfl) hS0 (fun w' hS => by have A0 := LK.out w' (HBB.out.below hS); go_simp; rfl) ?_
        refine take_S 6 rfl (by kernel_rfl) (by kernel_rfl) hS0 (fun w' hS => by go_simp; rfl) ?_
        refine take_S 7 rfl (by kernel_rfl) (by kernel_rfl) hS0 (fun w' hS => by go_simp; rfl) ?_
        refine take_S 8 rfl (by kernel_rfl) (by kernel_rfl) hS0 (fun w' hS => by go_simp; rfl) ?_
        refine carry_S 9 rfl (by kernel_rfl) (by decide) (by kernel_rfl) (fun K hK => ?_)
        go_simp
        have hS5 : Below w2.heap.size w2 ((w2.alloc (.cells #[.int .u32 0, .int .i64 0, .int .i64 0, .string ⟨#[]⟩] 82)).drew) := ((Below.refl _ w2).alloc (Nat.le_refl _) _).drew
        have hbh : Box4 w2.heap.size (.int .u32 0) (.int .i64 0) (.int .i64 0) (.string ⟨#[]⟩) ((w2.alloc (.cells #[.int .u32 0, .int .i64 0, .int .i64 0, .string ⟨#[]⟩] 82)).drew) := Box4.mk' w2.drew _ _ _ _ _
        refine hK _ _ hS5 ?_
        clear hK K
        try simp only [Act.put, List.getElem_toArray, List.getElem_cons_succ, List.getElem_cons_zero, List.setIfInBounds_toArray, List.set_cons_zero, List.set_cons_succ]
        generalize (w2.alloc (.cells #[.int .u32 0, .int .i64 0, .int .i64 0, .string ⟨#[]⟩] 82)).drew = w6a at *
        have HBH0 := Lib.hid hbh
        obtain ⟨b0, b1, b2, b3, hf⟩ := hbh
        have f0 := hf 0
        have f1 := hf 1
        have f2 := hf 2
        have f3 := hf 3
        refine carry_S 10 rfl (by kernel_rfl) (by decide) (by kernel_rfl) (fun K hK => ?_)
        go_simp
        have hS6 := below_set4 hS5 (Nat.le_refl _) (.int .u32 (o.id.1 : Int)) (.int .i64 o.id.2) (.int .i64 o.uses) (.string (bs o.text))
        refine hK _ _ hS6 (forced_S (by kernel_rfl) ?_)
        clear hK K
        try simp only [Act.put, List.getElem_toArray, List.getElem_cons_succ, List.getElem_cons_zero, List.setIfInBounds_toArray, List.set_cons_zero, List.set_cons_succ]
        simp only [List.drop_succ_cons, List.drop_zero]
        have HBH := Lib.hid (HBH0.out.set (.int .u32 (o.id.1 : Int)) (.int .i64 o.id.2) (.int .i64 o.uses) (.string (bs o.text)))
        generalize ((((w6a.setCell ⟨w2.heap.size, 0, none⟩ (.int .u32 (o.id.1 : Int))).setCell ⟨w2.heap.size, 1, none⟩ (.int .i64 o.id.2)).setCell ⟨w2.heap.size, 2, none⟩ (.int .i64 o.uses)).setCell ⟨w2.heap.size, 3, none⟩ (.string (bs o.text))) = w6 at *
        clear hS5 hS0 HBH0 b0 b1 b2 b3 hf f0 f1 f2 f3
        obtain ⟨h0, h1, h2, h3, _⟩ := HBH.out
        have HB6 := Lib.hid (HB2.out.trans (hS6.mono HB2.out.size))
        have HBB6 := Lib.hid (HBB.out.below hS6)
        have HX6 := Lib.hid (HX.out.below hS6 HX.out.lt)
        have HBR6 := Lib.hid (HBR2.out.below hS6 HBR2.out.lt)
        clear hS6
        go_wp2_with fail
        refine (HRT.out _).mono ?_
        rintro e w7 ⟨rfl, rfl⟩
        go_wp2
        have hS0 : Below w6.heap.size w6 w6.drew := (Below.refl _ _).drew
        refine region_S (fun w' => Below w6.heap.size w6 w') 11 (by kernel_rfl) (by kernel_rfl) ?_
        refine take_S 0 rfl (by kernel_rfl) (by kernel_rfl) hS0 (fun w' hS => by go_simp; rfl) ?_
        refine take_S 1 rfl (by kernel_rfl) (by kernel_rfl) hS0 (fun w' hS => by go_simp; rfl) ?_
        refine take_S 2 rfl (by kernel_rfl) (by kernel_rfl) hS0 (fun w' hS => by go_simp; rfl) ?_
        refine take_S 3 rfl (by kernel_rfl) (by kernel_rfl) hS0 (fun w' hS => by have A0 := (HBB6.out.below hS).cell; go_simp; rfl) ?_
        refine take_S 4 rfl (by kernel_rfl) (by kernel_rfl) hS0 (fun w' hS => by have A0 := (HX6.out.below hS HX6.out.lt).c0; have A1 := (HX6.out.below hS HX6.out.lt).c1; go_simp; rfl) ?_
        refine take_S 5 rfl (by kernel_rfl) (by kernel_rfl) hS0 (fun w' hS => by have A0 := (HX6.out.below hS HX6.out.lt).c0; have A1 := (HX6.out.below hS HX6.out.lt).c1; go_simp; rfl) ?_
        refine take_S 6 rfl (by kernel_rfl) (by kernel_rfl) hS0 (fun w' hS => by go_simp; rfl) ?_
        refine take_S 7 rfl (by kernel_rfl) (by kernel_rfl) hS0 (fun w' hS => by have A2 := (HBH.out.below hS HBH.out.lt).c2; go_simp; rfl) ?_
        refine take_S 8 (v := .int .i64 (o.uses + 1)) rfl (by kernel_rfl) (by kernel_rfl) hS0 (fun w' hS => by have W1 := HWR.out; go_simp) ?_
        refine take_S 9 rfl (by kernel_rfl) (by kernel_rfl) hS0 (fun w' hS => by go_simp; rfl) ?_
        refine take_S 10 rfl (by kernel_rfl) (by kernel_rfl) hS0 (fun w' hS => by go_simp; rfl) (forced_S (by kernel_rfl) ?_)
        try simp only [Act.put, List.getElem_toArray, List.getElem_cons_succ, List.getElem_cons_zero, List.setIfInBounds_toArray, List.set_cons_zero, List.set_cons_succ]
        simp only [List.drop_succ_cons, List.drop_zero]
        have HT := Lib.hid (HBB6.out.drew)
        go_wp2_with (first | (at_mapUpdate; refine wpList_mapUpdate_in _ rfl _ _ _ 117 rfl 47 82 lawI Tryz.underlying117 hldElem mb L.length (dataB L) rfl HT.out.map HLEN.out (idV x) (hldV ⟨x, o.uses + 1, t⟩) _ rfl rfl HKEY.out (hldU ⟨x, o.uses + 1, t⟩) [] (hldElem_mk HHW.out) ?_; intro w8 hown8 hturn8; have hg8 := hturn8.grown; have HG8 := Lib.hid hg8; have HOWN8 := Lib.hid hown8; have HX8 := Lib.hid (gb_box2 hg8 (by omega) (Box2.drewN HX6.out 1)); have HBR8 := Lib.hid (gb_box2 hg8 (by omega) (Box2.drewN HBR6.out 1)); clear hown8 hturn8 hg8; obtain ⟨x0, x1, _, _⟩ := HX8.out; obtain ⟨r0, r1, g0, g1⟩ := HBR8.out) | fail)
        obtain ⟨t0, t1, _⟩ := HBR8.out.rd (.int .u32 (x.1 : Int)) (.int .i64 x.2)
        have HG9 := Lib.hid (gb_setNew (gb_setNew ((gb_of_below HB6.out.drew).trans HG8.out) (Nat.le_refl _) 0 (.int .u32 (x.1 : Int))) (Nat.le_refl _) 1 (.int .i64 x.2))
        have HB9 := Lib.hid (((HT.out.put HOK.out.srt HOK.out.idok0 ⟨x, o.uses + 1, t⟩ HIX.out HOWN8.out HG8.out).set (Nat.ne_of_lt hbl) (Nat.ne_of_lt hml) 0 (.int .u32 (x.1 : Int))).set (Nat.ne_of_lt hbl) (Nat.ne_of_lt hml) 1 (.int .i64 x.2))
        refine bodyPost_ret (v := .tuple #[idV x, .bool false, .nilIface]) (by simp [results, Tryz.results22, go_sem, t0, t1]) rfl ?_
        exact put_ok HR.out (ES.none a) HB9.out HG9.out
      · have e1 : ((bs o.text).toList == (bs t).toList) = false := by
          rw [ByteArray.toList_eq, ByteArray.toList_eq, bs_toList, bs_toList, beq_eq_false_iff_ne]; exact he
        have e2 : ((bs o.text).toList != (bs t).toList) = true := by rw [bne, e1]; rfl
        have HR : Hid (putB t L = (L, (0, 0), false, 10)) := Lib.hid (by unfold putB; rw [if_neg hr', hx, hg]; simp only; rw [if_pos he])
        clear hr hr' hg hx he hou
        go_enter Tryz.func22, Tryz.ntmps22
        go_wp2_with fail
        generalize w.alloc (.cells #[.int .u32 0, .int .i64 0] 47) = w0 at *
        refine (HID.out w0).mono ?_
        rintro e w1 ⟨rfl, hb1⟩
        have hX1 : Box2 w1.heap.size (.int .u32 (x.1 : Int)) (.int .i64 x.2) (w1.alloc (.cells #[.int .u32 (x.1 : Int), .int .i64 x.2] 47)) := Box2.mk' _ _ _ _
        have hb2 := hb1.alloc hb1.size (.cells #[.int .u32 (x.1 : Int), .int .i64 x.2] 47)
        have hlt1 : w.heap.size < w1.heap.size := Nat.lt_of_lt_of_le HBR.out.lt hb1.size
        go_wp2_with fail
        generalize w1.alloc (.cells #[.int .u32 (x.1 : Int), .int .i64 x.2] 47) = w2 at *
        have HX := Lib.hid hX1
        have HBB := Lib.hid (HB0B.out.below hb2)
        have HB2 := Lib.hid (HB0.out.trans (hb2.mono HB0.out.size))
        have HBR2 := Lib.hid (HBR.out.below hb2 HBR.out.lt)
        clear hX1 hb1 hb2
        go_wp2
        have hS0 : Below w2.heap.size w2 w2.drew := (Below.refl _ _).drew
        refine region_S (fun w' => Below w2.heap.size w2 w') 11 (by kernel_rfl) (by kernel_rfl) ?_
        refine take_S 0 rfl (by kernel_rfl) (by kernel_rfl) hS0 (fun w' hS => by go_simp; rfl) ?_
        refine take_S 1 rfl (by kernel_rfl) (by kernel_rfl) hS0 (fun w' hS => by go_simp; rfl) ?_
        refine take_S 2 rfl (by kernel_rfl) (by kernel_rfl) hS0 (fun w' hS => by go_simp; rfl) ?_
        refine take_S 3 rfl (by kernel_rfl) (by kernel_rfl) hS0 (fun w' hS => by have A0 := (HBB.out.below hS).cell; go_simp; rfl) ?_
        refine take_S 4 rfl (by kernel_rfl) (by kernel_rfl) hS0 (fun w' hS => by have A0 := (HX.out.below hS HX.out.lt).c0; have A1 := (HX.out.below hS HX.out.lt).c1; go_simp; rfl) ?_
        refine take_S 5 rfl (by kernel_rfl) (by kernel_rfl) hS0 (fun w' hS => by have A0 := LK.out w' (HBB.out.below hS); go_simp; rfl) ?_
        refine take_S 6 rfl (by kernel_rfl) (by kernel_rfl) hS0 (fun w' hS => by go_simp; rfl) ?_
        refine take_S 7 rfl (by kernel_rfl) (by kernel_rfl) hS0 (fun w' hS => by go_simp; rfl) ?_
        refine take_S 8 rfl (by kernel_rfl) (by kernel_rfl) hS0 (fun w' hS => by go_simp; rfl) ?_
        refine carry_S 9 rfl (by kernel_rfl) (by decide) (by kernel_rfl) (fun K hK => ?_)
        go_simp
        have hS5 : Below w2.heap.size w2 ((w2.alloc (.cells #[.int .u32 0, .int .i64 0, .int .i64 0, .string ⟨#[]⟩] 82)).drew) := ((Below.refl _ w2).alloc (Nat.le_refl _) _).drew
        have hbh : Box4 w2.heap.size (.int .u32 0) (.int .i64 0) (.int .i64 0) (.string ⟨#[]⟩) ((w2.alloc (.cells #[.int .u32 0, .int .i64 0, .int .i64 0, .string ⟨#[]⟩] 82)).drew) := Box4.mk' w2.drew _ _ _ _ _
        refine hK _ _ hS5 ?_
        clear hK K
        try simp only [Act.put, List.getElem_toArray, List.getElem_cons_succ, List.getElem_cons_zero, List.setIfInBounds_toArray, List.set_cons_zero, List.set_cons_succ]
        generalize (w2.alloc (.cells #[.int .u32 0, .int .i64 0, .int .i64 0, .string ⟨#[]⟩] 82)).drew = w6a at *
        have HBH0 := Lib.hid hbh
        obtain ⟨b0, b1, b2, b3, hf⟩ := hbh
        have f0 := hf 0
        have f1 := hf 1
        have f2 := hf 2
        have f3 := hf 3
        refine carry_S 10 rfl (by kernel_rfl) (by decide) (by kernel_rfl) (fun K hK => ?_)
        go_simp
        have hS6 := below_set4 hS5 (Nat.le_refl _) (.int .u32 (o.id.1 : Int)) (.int .i64 o.id.2) (.int .i64 o.uses) (.string (bs o.text))
        refine hK _ _ hS6 (forced_S (by kernel_rfl) ?_)
        clear hK K
        try simp only [Act.put, List.getElem_toArray, List.getElem_cons_succ, List.getElem_cons_zero, List.setIfInBounds_toArray, List.set_cons_zero, List.set_cons_succ]
        simp only [List.drop_succ_cons, List.drop_zero]
        have HBH := Lib.hid (HBH0.out.set (.int .u32 (o.id.1 : Int)) (.int .i64 o.id.2) (.int .i64 o.uses) (.string (bs o.text)))
        generalize ((((w6a.setCell ⟨w2.heap.size, 0, none⟩ (.int .u32 (o.id.1 : Int))).setCell ⟨w2.heap.size, 1, none⟩ (.int .i64 o.id.2)).setCell ⟨w2.heap.size, 2, none⟩ (.int .i64 o.uses)).setCell ⟨w2.heap.size, 3, none⟩ (.string (bs o.text))) = w6 at *
        clear hS5 hS0 HBH0 b0 b1 b2 b3 hf f0 f1 f2 f3
        obtain ⟨h0, h1, h2, h3, _⟩ := HBH.out
        have HB6 := Lib.hid (HB2.out.trans (hS6.mono HB2.out.size))
        have HBB6 := Lib.hid (HBB.out.below hS6)
        have HX6 := Lib.hid (HX.out.below hS6 HX.out.lt)
        have HBR6 := Lib.hid (HBR2.out.below hS6 HBR2.out.lt)
        clear hS6
        go_wp2_with fail
        refine (HRT.out _).mono ?_
        rintro e w7 ⟨rfl, rfl⟩
        obtain ⟨r0, r1, g0, g1⟩ := HBR6.out
        obtain ⟨t0, t1, _⟩ := HBR6.out.rd (.int .u32 0) (.int .i64 0)
        have s0 : w6.cell? ⟨4, 0, none⟩ = some (sval a 9) := (HS.out w6 HB6.out) 9 (by simp)
        unfold sval at s0
        have hne : ¬ (4 = w.heap.size) := by have := hg9; omega
        have HB9 := Lib.hid (below_set2 HB6.out (Nat.le_refl _) (.int .u32 0) (.int .i64 0)).drew
        go_wp2
        go_region
        go_wp2
        refine bodyPost_ret (v := .tuple #[idV (0, 0), .bool false, .iface 361 (.pointer (some (a 9)))]) (by simp [results, Tryz.results22, go_sem, t0, t1]) rfl ?_
        exact put_bad HR.out (ES.sent a 9 (by decide)) (HBIN.out.below HB9.out) HB9.out
    | none =>
      have LK := Lib.hid (fun w' (h : OBin b mb L w') => h.look_none HOK.out.idok HIX.out.1 hg)
      have HLN := Lib.hid (fun w' (h : OBin b mb L w') => h.len)
      by_cases hf : 250 ≤ L.length
      · have hfi : (L.length : Int) ≥ 250 := by omega
        have HR : Hid (putB t L = (L, (0, 0), false, 7)) := Lib.hid (by unfold putB; rw [if_neg hr', hx, hg]; exact if_pos hf)
        clear hr hr' hg hx hf
        go_enter Tryz.func22, Tryz.ntmps22
        go_wp2_with fail
        generalize w.alloc (.cells #[.int .u32 0, .int .i64 0] 47) = w0 at *
        refine (HID.out w0).mono ?_
        rintro e w1 ⟨rfl, hb1⟩
        have hX1 : Box2 w1.heap.size (.int .u32 (x.1 : Int)) (.int .i64 x.2) (w1.alloc (.cells #[.int .u32 (x.1 : Int), .int .i64 x.2] 47)) := Box2.mk' _ _ _ _
        have hb2 := hb1.alloc hb1.size (.cells #[.int .u32 (x.1 : Int), .int .i64 x.2] 47)
        have hlt1 : w.heap.size < w1.heap.size := Nat.lt_of_lt_of_le HBR.out.lt hb1.size
        go_wp2_with fail
        generalize w1.alloc (.cells #[.int .u32 (x.1 : Int), .int .i64 x.2] 47) = w2 at *
        have HX := Lib.hid hX1
        have HBB := Lib.hid (HB0B.out.below hb2)
        have HB2 := Lib.hid (HB0.out.trans (hb2.mono HB0.out.size))
        have HBR2 := Lib.hid (HBR.out.below hb2 HBR.out.lt)
        clear hX1 hb1 hb2
        go_wp2
        have hS0 : Below w2.heap.size w2 w2.drew := (Below.refl _ _).drew
        refine region_S (fun w' => Below w2.heap.size w2 w') 11 (by kernel_rfl) (by kernel_rfl) ?_
        refine take_S 0 rfl (by kernel_rfl) (by kernel_rfl) hS0 (fun w' hS => by go_simp; rfl) ?_
        refine take_S 1 rfl (by kernel_rfl) (by kernel_rfl) hS0 (fun w' hS => by go_simp; rfl) ?_
        refine take_S 2 rfl (by kernel_rfl) (by kernel_rfl) hS0 (fun w' hS => by go_simp; rfl) ?_
        refine take_S 3 rfl (by kernel_rfl) (by kernel_rfl) hS0 (fun w' hS => by have A0 := (HBB.out.below hS).cell; go_simp; rfl) ?_
        refine take_S 4 rfl (by kernel_rfl) (by kernel_rfl) hS0 (fun w' hS => by have A0 := (HX.out.below hS HX.out.lt).c0; have A1 := (HX.out.below hS HX.out.lt).c1; go_simp; rfl) ?_
        refine take_S 5 rfl (by kernel_rfl) (by kernel_rfl) hS0 (fun w' hS => by have A0 := LK.out w' (HBB.out.below hS); go_simp; rfl) ?_
        refine take_S 6 rfl (by kernel_rfl) (by kernel_rfl) hS0 (fun w' hS => by go_simp; rfl) ?_
        refine take_S 7 rfl (by kernel_rfl) (by kernel_rfl) hS0 (fun w' hS => by go_simp; rfl) ?_
        refine take_S 8 rfl (by kernel_rfl) (by kernel_rfl) hS0 (fun w' hS => by go_simp; rfl) ?_
        refine carry_S 9 rfl (by kernel_rfl) (by decide) (by kernel_rfl) (fun K hK => ?_)
        go_simp
        have hS5 : Below w2.heap.size w2 ((w2.alloc (.cells #[.int .u32 0, .int .i64 0, .int .i64 0, .string ⟨#[]⟩] 82)).drew) := ((Below.refl _ w2).alloc (Nat.le_refl _) _).drew
        have hbh : Box4 w2.heap.size (.int .u32 0) (.int .i64 0) (.int .i64 0) (.string ⟨#[]⟩) ((w2.alloc (.cells #[.int .u32 0, .int .i64 0, .int .i64 0, .string ⟨#[]⟩] 82)).drew) := Box4.mk' w2.drew _ _ _ _ _
        refine hK _ _ hS5 ?_
        clear hK K
        try simp only [Act.put, List.getElem_toArray, List.getElem_cons_succ, List.getElem_cons_zero, List.setIfInBounds_toArray, List.set_cons_zero, List.set_cons_succ]
        generalize (w2.alloc (.cells #[.int .u32 0, .int .i64 0, .int .i64 0, .string ⟨#[]⟩] 82)).drew = w6a at *
        have HBH0 := Lib.hid hbh
        obtain ⟨b0, b1, b2, b3, hf⟩ := hbh
        have f0 := hf 0
        have f1 := hf 1
        have f2 := hf 2
        have f3 := hf 3
        refine carry_S 10 rfl (by kernel_rfl) (by decide) (by kernel_rfl) (fun K hK => ?_)
        go_simp
        have hS6 := below_set4 hS5 (Nat.le_refl _) (.int .u32 (hldZ.id.1 : Int)) (.int .i64 hldZ.id.2) (.int .i64 hldZ.uses) (.string (bs hldZ.text))
        refine hK _ _ hS6 (forced_S (by kernel_rfl) ?_)
        clear hK K
        try simp only [Act.put, List.getElem_toArray, List.getElem_cons_succ, List.getElem_cons_zero, List.setIfInBounds_toArray, List.set_cons_zero, List.set_cons_succ]
        simp only [List.drop_succ_cons, List.drop_zero]
        have HBH := Lib.hid (HBH0.out.set (.int .u32 (hldZ.id.1 : Int)) (.int .i64 hldZ.id.2) (.int .i64 hldZ.uses) (.string (bs hldZ.text)))
        generalize ((((w6a.setCell ⟨w2.heap.size, 0, none⟩ (.int .u32 (hldZ.id.1 : Int))).setCell ⟨w2.heap.size, 1, none⟩ (.int .i64 hldZ.id.2)).setCell ⟨w2.heap.size, 2, none⟩ (.int .i64 hldZ.uses)).setCell ⟨w2.heap.size, 3, none⟩ (.string (bs hldZ.text))) = w6 at *
        clear hS5 hS0 HBH0 b0 b1 b2 b3 hf f0 f1 f2 f3
        obtain ⟨h0, h1, h2, h3, _⟩ := HBH.out
        have HB6 := Lib.hid (HB2.out.trans (hS6.mono HB2.out.size))
        have HBB6 := Lib.hid (HBB.out.below hS6)
        have HX6 := Lib.hid (HX.out.below hS6 HX.out.lt)
        have HBR6 := Lib.hid (HBR2.out.below hS6 HBR2.out.lt)
        clear hS6
        go_wp2_with fail
        refine (HRT.out _).mono ?_
        rintro e w7 ⟨rfl, rfl⟩
        have hln := HLN.out w6 HBB6.out
        have m0 := HBB6.out.cell
        obtain ⟨r0, r1, g0, g1⟩ := HBR6.out
        obtain ⟨t0, t1, _⟩ := HBR6.out.rd (.int .u32 0) (.int .i64 0)
        have s0 : w6.cell? ⟨1, 0, none⟩ = some (sval a 6) := (HS.out w6 HB6.out) 6 (by simp)
        unfold sval at s0
        have hne : ¬ (1 = w.heap.size) := by have := hg6; omega
        have HB9 := Lib.hid (below_set2 HB6.out (Nat.le_refl _) (.int .u32 0) (.int .i64 0)).drew
        go_wp2
        go_region
        go_wp2
        refine bodyPost_ret (v := .tuple #[idV (0, 0), .bool false, .iface 361 (.pointer (some (a 6)))]) (by simp [results, Tryz.results22, go_sem, t0, t1]) rfl ?_
        exact put_bad HR.out (ES.sent a 6 (by decide)) (HBIN.out.below HB9.out) HB9.out
      · have hfi : ¬ (L.length : Int) ≥ 250 := by omega
        have HR : Hid (putB t L = (setB ⟨x, hldZ.uses + 1, t⟩ L, x, true, 0)) := Lib.hid (by unfold putB; rw [if_neg hr', hx, hg]; exact if_neg hf)
        have HWR : Hid (IntKind.i64.wrap (hldZ.uses + 1) = hldZ.uses + 1) := Lib.hid (by decide)
        have HHW : Hid (HldW ⟨x, hldZ.uses + 1, t⟩) := Lib.hid ⟨HIX.out.1, by show -9223372036854775808 ≤ hldZ.uses + 1; decide, by show hldZ.uses + 1 ≤ 9223372036854775807; decide⟩
        clear hr hr' hg hx hf
        go_enter Tryz.func22, Tryz.ntmps22
        go_wp2_with fail
        generalize w.alloc (.cells #[.int .u32 0, .int .i64 0] 47) = w0 at *
        refine (HID.out w0).mono ?_
        rintro e w1 ⟨rfl, hb1⟩
        have hX1 : Box2 w1.heap.size (.int .u32 (x.1 : Int)) (.int .i64 x.2) (w1.alloc (.cells #[.int .u32 (x.1 : Int), .int .i64 x.2] 47)) := Box2.mk' _ _ _ _
        have hb2 := hb1.alloc hb1.size (.cells #[.int .u32 (x.1 : Int), .int .i64 x.2] 47)
        have hlt1 : w.heap.size < w1.heap.size := Nat.lt_of_lt_of_le HBR.out.lt hb1.size
        go_wp2_with fail
        generalize w1.alloc (.cells #[.int .u32 (x.1 : Int), .int .i64 x.2] 47) = w2 at *
        have HX := Lib.hid hX1
        have HBB := Lib.hid (HB0B.out.below hb2)
        have HB2 := Lib.hid (HB0.out.trans (hb2.mono HB0.out.size))
        have HBR2 := Lib.hid (HBR.out.below hb2 HBR.out.lt)
        clear hX1 hb1 hb2
        go_wp2
        have hS0 : Below w2.heap.size w2 w2.drew := (Below.refl _ _).drew
        refine region_S (fun w' => Below w2.heap.size w2 w') 11 (by kernel_rfl) (by kernel_rfl) ?_
        refine take_S 0 rfl (by kernel_rfl) (by kernel_rfl) hS0 (fun w' hS => by go_simp; rfl) ?_
        refine take_S 1 rfl (by kernel_rfl) (by kernel_rfl) hS0 (fun w' hS => by go_simp; rfl) ?_
        refine take_S 2 rfl (by kernel_rfl) (by kernel_rfl) hS0 (fun w' hS => by go_simp; rfl) ?_
        refine take_S 3 rfl (by kernel_rfl) (by kernel_rfl) hS0 (fun w' hS => by have A0 := (HBB.out.below hS).cell; go_simp; rfl) ?_
        refine take_S 4 rfl (by kernel_rfl) (by kernel_rfl) hS0 (fun w' hS => by have A0 := (HX.out.below hS HX.out.lt).c0; have A1 := (HX.out.below hS HX.out.lt).c1; go_simp; rfl) ?_
        refine take_S 5 rfl (by kernel_rfl) (by kernel_rfl) hS0 (fun w' hS => by have A0 := LK.out w' (HBB.out.below hS); go_simp; rfl) ?_
        refine take_S 6 rfl (by kernel_rfl) (by kernel_rfl) hS0 (fun w' hS => by go_simp; rfl) ?_
        refine take_S 7 rfl (by kernel_rfl) (by kernel_rfl) hS0 (fun w' hS => by go_simp; rfl) ?_
        refine take_S 8 rfl (by kernel_rfl) (by kernel_rfl) hS0 (fun w' hS => by go_simp; rfl) ?_
        refine carry_S 9 rfl (by kernel_rfl) (by decide) (by kernel_rfl) (fun K hK => ?_)
        go_simp
        have hS5 : Below w2.heap.size w2 ((w2.alloc (.cells #[.int .u32 0, .int .i64 0, .int .i64 0, .string ⟨#[]⟩] 82)).drew) := ((Below.refl _ w2).alloc (Nat.le_refl _) _).drew
        have hbh : Box4 w2.heap.size (.int .u32 0) (.int .i64 0) (.int .i64 0) (.string ⟨#[]⟩) ((w2.alloc (.cells #[.int .u32 0, .int .i64 0, .int .i64 0, .string ⟨#[]⟩] 82)).drew) := Box4.mk' w2.drew _ _ _ _ _
        refine hK _ _ hS5 ?_
        clear hK K
        try simp only [Act.put, List.getElem_toArray, List.getElem_cons_succ, List.getElem_cons_zero, List.setIfInBounds_toArray, List.set_cons_zero, List.set_cons_succ]
        generalize (w2.alloc (.cells #[.int .u32 0, .int .i64 0, .int .i64 0, .string ⟨#[]⟩] 82)).drew = w6a at *
        have HBH0 := Lib.hid hbh
        obtain ⟨b0, b1, b2, b3, hf⟩ := hbh
        have f0 := hf 0
        have f1 := hf 1
        have f2 := hf 2
        have f3 := hf 3
        refine carry_S 10 rfl (by kernel_rfl) (by decide) (by kernel_rfl) (fun K hK => ?_)
        go_simp
        have hS6 := below_set4 hS5 (Nat.le_refl _) (.int .u32 (hldZ.id.1 : Int)) (.int .i64 hldZ.id.2) (.int .i64 hldZ.uses) (.string (bs hldZ.text))
        refine hK _ _ hS6 (forced_S (by kernel_rfl) ?_)
        clear hK K
        try simp only [Act.put, List.getElem_toArray, List.getElem_cons_succ, List.getElem_cons_zero, List.setIfInBounds_toArray, List.set_cons_zero, List.set_cons_succ]
        simp only [List.drop_succ_cons, List.drop_zero]
        have HBH := Lib.hid (HBH0.out.set (.int .u32 (hldZ.id.1 : Int)) (.int .i64 hldZ.id.2) (.int .i64 hldZ.uses) (.string (bs hldZ.text)))
        generalize ((((w6a.setCell ⟨w2.heap.size, 0, none⟩ (.int .u32 (hldZ.id.1 : Int))).setCell ⟨w2.heap.size, 1, none⟩ (.int .i64 hldZ.id.2)).setCell ⟨w2.heap.size, 2, none⟩ (.int .i64 hldZ.uses)).setCell ⟨w2.heap.size, 3, none⟩ (.string (bs hldZ.text))) = w6 at *
        clear hS5 hS0 HBH0 b0 b1 b2 b3 hf f0 f1 f2 f3
        obtain ⟨h0, h1, h2, h3, _⟩ := HBH.out
        have HB6 := Lib.hid (HB2.out.trans (hS6.mono HB2.out.size))
        have HBB6 := Lib.hid (HBB.out.below hS6)
        have HX6 := Lib.hid (HX.out.below hS6 HX.out.lt)
        have HBR6 := Lib.hid (HBR2.out.below hS6 HBR2.out.lt)
        clear hS6
        go_wp2_with fail
        refine (HRT.out _).mono ?_
        rintro e w7 ⟨rfl, rfl⟩
        have hln := HLN.out w6 HBB6.out
        have m0 := HBB6.out.cell
        go_wp2
        have hS0 : Below w6.heap.size w6 w6.drew := (Below.refl _ _).drew
        refine region_S (fun w' => Below w6.heap.size w6 w') 11 (by kernel_rfl) (by kernel_rfl) ?_
        refine take_S 0 rfl (by kernel_rfl) (by kernel_rfl) hS0 (fun w' hS => by go_simp; rfl) ?_
        refine take_S 1 rfl (by kernel_rfl) (by kernel_rfl) hS0 (fun w' hS => by go_simp; rfl) ?_
        refine take_S 2 rfl (by kernel_rfl) (by kernel_rfl) hS0 (fun w' hS => by go_simp; rfl) ?_
        refine take_S 3 rfl (by kernel_rfl) (by kernel_rfl) hS0 (fun w' hS => by have A0 := (HBB6.out.below hS).cell; go_simp; rfl) ?_
        refine take_S 4 rfl (by kernel_rfl) (by kernel_rfl) hS0 (fun w' hS => by have A0 := (HX6.out.below hS HX6.out.lt).c0; have A1 := (HX6.out.below hS HX6.out.lt).c1; go_simp; rfl) ?_
        refine take_S 5 rfl (by kernel_rfl) (by kernel_rfl) hS0 (fun w' hS => by have A0 := (HX6.out.below hS HX6.out.lt).c0; have A1 := (HX6.out.below hS HX6.out.lt).c1; go_simp; rfl) ?_
        refine take_S 6 rfl (by kernel_rfl) (by kernel_rfl) hS0 (fun w' hS => by go_simp; rfl) ?_
        refine take_S 7 rfl (by kernel_rfl) (by kernel_rfl) hS0 (fun w' hS => by have A2 := (HBH.out.below hS HBH.out.lt).c2; go_simp; rfl) ?_
        refine take_S 8 (v := .int .i64 (hldZ.uses + 1)) rfl (by kernel_rfl) (by kernel_rfl) hS0 (fun w' hS => by have W1 := HWR.out; go_simp) ?_
        refine take_S 9 rfl (by kernel_rfl) (by kernel_rfl) hS0 (fun w' hS => by go_simp; rfl) ?_
        refine take_S 10 rfl (by kernel_rfl) (by kernel_rfl) hS0 (fun w' hS => by go_simp; rfl) (forced_S (by kernel_rfl) ?_)
        try simp only [Act.put, List.getElem_toArray, List.getElem_cons_succ, List.getElem_cons_zero, List.setIfInBounds_toArray, List.set_cons_zero, List.set_cons_succ]
        simp only [List.drop_succ_cons, List.drop_zero]
        have HT := Lib.hid (HBB6.out.drew)
        go_wp2_with (first | (at_mapUpdate; refine wpList_mapUpdate_in _ rfl _ _ _ 117 rfl 47 82 lawI Tryz.underlying117 hldElem mb L.length (dataB L) rfl HT.out.map HLEN.out (idV x) (hldV ⟨x, hldZ.uses + 1, t⟩) _ rfl rfl HKEY.out (hldU ⟨x, hldZ.uses + 1, t⟩) [] (hldElem_mk HHW.out) ?_; intro w8 hown8 hturn8; have hg8 := hturn8.grown; have HG8 := Lib.hid hg8; have HOWN8 := Lib.hid hown8; have HX8 := Lib.hid (gb_box2 hg8 (by omega) (Box2.drewN HX6.out 1)); have HBR8 := Lib.hid (gb_box2 hg8 (by omega) (Box2.drewN HBR6.out 1)); clear hown8 hturn8 hg8; obtain ⟨x0, x1, _, _⟩ := HX8.out; obtain ⟨r0, r1, g0, g1⟩ := HBR8.out) | fail)
        obtain ⟨t0, t1, _⟩ := HBR8.out.rd (.int .u32 (x.1 : Int)) (.int .i64 x.2)
        have HG9 := Lib.hid (gb_setNew (gb_setNew ((gb_of_below HB6.out.drew).trans HG8.out) (Nat.le_refl _) 0 (.int .u32 (x.1 : Int))) (Nat.le_refl _) 1 (.int .i64 x.2))
        have HB9 := Lib.hid (((HT.out.put HOK.out.srt HOK.out.idok0 ⟨x, hldZ.uses + 1, t⟩ HIX.out HOWN8.out HG8.out).set (Nat.ne_of_lt hbl) (Nat.ne_of_lt hml) 0 (.int .u32 (x.1 : Int))).set (Nat.ne_of_lt hbl) (Nat.ne_of_lt hml) 1 (.int .i64 x.2))
        refine bodyPost_ret (v := .tuple #[idV x, .bool true, .nilIface]) (by simp [results, Tryz.results22, go_sem, t0, t1]) rfl ?_
        exact put_ok HR.out (ES.none a) HB9.out HG9.out
end Go.Proofs.YtpanoplcamdnkaaGreatDoor
/- bins in memory: walk of Drop. Condition: the sentinels that are read lie as named (SomeS). -/
namespace Go.Proofs.YtpanoplcamdnkaaGreatDoor
open Go.RowKit Go.Lib Go.Maps Go.WideMaps

def DropPost (a : Nat → Addr) (b mb : Nat) (L : HldL) (x : Idn) (w : World) (e : Ending) (w' : World) : Prop :=
  ∃ r, e = .returned r ∧ ES a r (dropB x L).2 ∧ OBin b mb (dropB x L).1 w' ∧ w.grownBy w' (some mb)
end Go.Proofs.YtpanoplcamdnkaaGreatDoor
/- bins in memory: walks of Size, Sweep (and of the library's DeleteFunc at a bin's map), Copy. No conditions but bounds. -/
namespace Go.Proofs.YtpanoplcamdnkaaGreatDoor
open Go.RowKit Go.Lib Go.Maps Go.WideMaps

/-! ### a key, read back -/
set_option maxRecDepth 100000 in
theorem keyI_inv {v : Value} {kl : Lit} (h : keyOf Tryz.prog 47 v = some kl) : ∃ x, IdOk x ∧ v = idV x ∧ kl = idLit x := by
  have h1 : Tryz.prog.keyType 47 = true := by kernel_rfl
  have hc : Tryz.prog.cellsOf 47 = 2 := by kernel_rfl
  obtain ⟨m, hm⟩ : ∃ m, Tryz.prog.types.size + 1 = m + 2 := ⟨Tryz.prog.types.size - 1, by have : 0 < Tryz.prog.types.size := of_decide_eq_true (by kernel_rfl); omega⟩
  unfold keyOf at h
  rw [Tryz.underlying47] at h
  simp only [h1, Bool.true_and] at h
  split at h
  · next hf =>
    cases v with
    | agg cs =>
      have hsz : cs.size = 2 := by
        have := hf
        unfold Value.formed at this
        rw [Tryz.underlying47] at this
        simpa [hc] using this
      obtain ⟨c0, c1, rfl⟩ : ∃ c0 c1, cs = #[c0, c1] := by
        obtain ⟨l⟩ := cs
        match l, hsz with
        | [a, b], _ => exact ⟨a, b, rfl⟩
      simp only [Value.cells] at h
      rw [hm] at h
      have hk : ∃ p n, c0 = .int .u32 p ∧ c1 = .int .i64 n ∧ (Lit.int .u32 p).wf = true ∧ (Lit.int .i64 n).wf = true := by
        have hc1 : Tryz.prog.cellsOf 45 = 1 := by kernel_rfl
        have hc2 : Tryz.prog.cellsOf 3 = 1 := by kernel_rfl
        cases c0 with
        | int q a =>
          by_cases h0 : q = .u32 ∧ (Lit.int .u32 a).wf = true
          · cases c1 with
            | int q1 a1 =>
              by_cases h2 : q1 = .i64 ∧ (Lit.int .i64 a1).wf = true
              · exact ⟨a, a1, by rw [h0.1], by rw [h2.1], h0.2, h2.2⟩
              · exfalso
                simp [Program.keyLits, Tryz.underlying47, Tryz.underlying45, Tryz.underlying3, hc, hc1, hc2, h0, h2] at h
            | _ =>
              exfalso
              simp [Program.keyLits, Tryz.underlying47, Tryz.underlying45, Tryz.underlying3, hc, hc1, hc2, h0] at h
          · exfalso
            simp [Program.keyLits, Tryz.underlying47, Tryz.underlying45, Tryz.underlying3, hc, hc1, hc2, h0] at h
        | _ =>
          exfalso
          simp [Program.keyLits, Tryz.underlying47, Tryz.underlying45, Tryz.underlying3, hc, hc1, hc2] at h
      obtain ⟨p, n, rfl, rfl, w1, w2⟩ := hk
      simp [Lit.wf, IntKind.min, IntKind.max, IntKind.bits, IntKind.signed] at w1 w2
      have hix : IdOk (p.toNat, n) := ⟨by show p.toNat < _; omega, by show _ ≤ n; omega, by show n ≤ _; omega⟩
      have hv : Value.agg #[.int .u32 p, .int .i64 n] = idV (p.toNat, n) := by show _ = Value.agg #[.int .u32 ((p.toNat : Nat) : Int), .int .i64 n]; rw [show ((p.toNat : Nat) : Int) = p by omega]
      refine ⟨(p.toNat, n), hix, hv, ?_⟩
      have := keyI hix
      rw [← hv] at this
      unfold keyOf at this
      rw [Tryz.underlying47] at this
      simp only [h1, Bool.true_and, hf, if_true, Value.cells, hm] at this
      rw [this] at h
      exact (Option.some.inj h).symm
    | _ => simp [Value.formed, Tryz.underlying47] at hf
  · cases h
theorem mkI_inv : ∀ key kl, keyOf Tryz.prog 47 key = some kl → ∃ x : Idn, key = idV x := fun _ _ h => by obtain ⟨x, _, hv, _⟩ := keyI_inv h; exact ⟨x, hv⟩
theorem mkH_inv : ∀ (v : Value) (y : DataW Unit × List MemPlace), hldElem v = some y → ∃ h : Hld, v = hldV h := fun _ _ h => by obtain ⟨o, hv, _⟩ := hldElem_inv h; exact ⟨o, hv⟩
theorem idV_inj {x y : Idn} (h : idV x = idV y) : x = y := by
  injection h with h
  injection h with h
  injection h with h1 h
  injection h with h2 _
  injection h1 with _ h1
  injection h2 with _ h2
  exact Prod.ext (by omega) h2
theorem hldV_inj {x y : Hld} (h : hldV x = hldV y) : x = y := by
  injection h with h
  injection h with h
  injection h with h1 h
  injection h with h2 h
  injection h with h3 h
  injection h with h4 _
  injection h1 with _ h1
  injection h2 with _ h2
  injection h3 with _ h3
  injection h4 with h4
  obtain ⟨⟨p, l⟩, u, s⟩ := x
  obtain ⟨⟨p', l'⟩, u', s'⟩ := y
  simp only at h1 h2 h3 h4
  have e1 : p = p' := by omega
  have e4 : s = s' := by have := congrArg (fun b : ByteArray => b.data.toList) h4; simpa [bs_toList] using this
  subst e1; subst h2; subst h3; subst e4
  rfl
/-- what comes out of a range over a bin's map -/
theorem came {L : HldL} (hL : ∀ y ∈ L, IdOk y.id) {x : Idn} {o : Hld} {kl : Lit} {yd : DataW Unit} {yp : List MemPlace} (hkey : keyOf Tryz.prog 47 (idV x) = some kl) (hv : hldElem (hldV o) = some (yd, yp)) (hat : ∀ zd, (dataB L).atKey kl zd = yd) :
    IdOk x ∧ kl = idLit x ∧ o ∈ L ∧ o.id = x ∧ yd = hldU o := by
  obtain ⟨x', hx, e, rfl⟩ := keyI_inv hkey
  obtain rfl := idV_inj e
  obtain ⟨o', e2, e3, _⟩ := hldElem_inv hv
  obtain rfl := hldV_inj e2
  injection e3 with e3 _
  subst e3
  have h1 := hat (hldU hldZ)
  rw [atKey_dataB hL hx] at h1
  have h2 := hat .nil
  cases hg : getB L x with
  | some p =>
    rw [hg] at h1
    obtain rfl := hldU_inj h1
    obtain ⟨m1, m2⟩ := getB_mem hg
    exact ⟨hx, rfl, m1, m2, rfl⟩
  | none =>
    exfalso
    have hh := has_dataB hL hx
    rw [hg] at hh
    rw [Maps.atKey_of_not_has hh] at h2
    cases h2
/-! ### a sum over what has come -/
def sumL (left : Lit → Bool) (L : HldL) : Int := ((L.filter fun h => !left (idLit h.id)).map fun h => h.id.2).sum
end Go.Proofs.YtpanoplcamdnkaaGreatDoor
/- bins in memory: walks of Sweep (and of the library's DeleteFunc at a bin's map), Copy. No conditions but bounds. -/
namespace Go.Proofs.YtpanoplcamdnkaaGreatDoor
open Go.RowKit Go.Lib Go.Maps Go.WideMaps

/-- what is struck -/
def pdB : Lit → DataW Unit → Bool
  | _, .agg [_, _, .lit (.int _ u), _] => u == 0
  | _, _ => false
set_option maxRecDepth 100000 in
theorem BnCopy_any (b mb : Nat) (L : HldL) (w : World) (hB : OBin b mb L w) :
    Calls Tryz.prog 56 #[.pointer (some ⟨b, 0, none⟩)] w fun e w' => ∃ b2 mb2, e = .returned (.pointer (some ⟨b2, 0, none⟩)) ∧ OBin b2 mb2 L w' ∧ w.heap.size ≤ b2 ∧ w.heap.size ≤ mb2 ∧ Below w.heap.size w w' := by
  have HB := Lib.hid hB
  have c0 := hB.cell
  have CL := Lib.hid (AnyW.maps_Clone_owns Tryz.clone108 47 hldElem mb L.length (dataB L) w hB.map)
  clear hB
  go_enter Tryz.func56, Tryz.ntmps56
  go_wp2_with fail
  refine CL.out.mono ?_
  rintro e w1 ⟨rfl, ho1, _, hb1⟩
  have HO1 := Lib.hid ho1
  have HB1 := Lib.hid hb1
  have hlt := ho1.lt
  clear ho1 hb1
  go_wp2
  go_ret
  refine ⟨w1.heap.size, w.heap.size, rfl, ⟨heap_alloc_new w1 _, HO1.out.alloc _, by omega⟩, HB1.out.size, Nat.le_refl _, HB1.out.alloc HB1.out.size _⟩
end Go.Proofs.YtpanoplcamdnkaaGreatDoor

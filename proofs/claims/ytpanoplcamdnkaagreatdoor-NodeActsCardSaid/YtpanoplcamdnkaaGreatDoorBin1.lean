/- BnA, BnP, BnD, BnS, BnT in one text. Conditions: as each part says. -/
import Derived.Test.YtpanoplcamdnkaaGreatDoorPln2
import Derived.Test.YtpanoplcamdnkaaGreatDoorIds1
import Derived.Test.YtpanoplcamdnkaaGreatDoorBse1
import Derived.Maps.OwnSet
import Derived.OwnWalk
import Derived.DeepKeys4
import Derived.Maps.OwnOps
import Derived.Maps.Views
import Derived.Handy
import Derived.Test.YtpanoplcamdnkaaGreatDoorPrt2
import Derived.Test.YtpanoplcamdnkaaGreatDoorBnL
import Derived.Maps.RangeWalk
import Derived.Deep.LoopGhost
import Derived.Lib.SmallJoins
import Derived.Shelf.SlMaps.Clone
/- bins in memory: the map's keys and elements; walks of New, Get, Copy's like, right. Condition: the sentinels that are read lie as named (SomeS). -/
namespace Go.Proofs.YtpanoplcamdnkaaGreatDoor
open Go.RowKit Go.Lib Go.Maps Go.WideMaps

theorem laidOutA : laidOutB Tryz.prog = true := by kernel_rfl
theorem lawI : Keyed Tryz.prog 47 := Keyed.of_law (deep_law_laid laidOutA (m := 2) (by omega) (of_decide_eq_true (by kernel_rfl)) (by kernel_rfl) (by rw [Tryz.underlying47]))
theorem keyI {x : Idn} (h : IdOk x) : keyOf Tryz.prog 47 (idV x) = some (idLit x) := by
  have h1 : Tryz.prog.keyType 47 = true := by kernel_rfl
  have h2 : (idV x).formed Tryz.prog 47 = true := by
    unfold idV Value.formed
    rw [Tryz.underlying47]
    simp [show Tryz.prog.cellsOf 47 = 2 by kernel_rfl]
  obtain ⟨m, hm⟩ : ∃ m, Tryz.prog.types.size + 1 = m + 2 := ⟨Tryz.prog.types.size - 1, by have : 0 < Tryz.prog.types.size := of_decide_eq_true (by kernel_rfl); omega⟩
  have w1 : (Lit.int .u32 (x.1 : Int)).wf = true := by
    have := h.1
    simp [Lit.wf, IntKind.min, IntKind.max, IntKind.bits, IntKind.signed]
    omega
  have w2 : (Lit.int .i64 x.2).wf = true := by
    have := h.2
    simp [Lit.wf, IntKind.min, IntKind.max, IntKind.bits, IntKind.signed]
    omega
  have h3 : Tryz.prog.keyLits (Tryz.prog.types.size + 1) 47 [.int .u32 (x.1 : Int), .int .i64 x.2] = some [.int .u32 (x.1 : Int), .int .i64 x.2] := by
    rw [hm]
    simp [Program.keyLits, Tryz.underlying47, Tryz.underlying45, Tryz.underlying3, show Tryz.prog.cellsOf 47 = 2 by kernel_rfl, show Tryz.prog.cellsOf 45 = 1 by kernel_rfl, show Tryz.prog.cellsOf 3 = 1 by kernel_rfl, w1, w2]
  unfold keyOf
  rw [Tryz.underlying47]
  simp only [h1, h2, Bool.and_self, if_true]
  show (Tryz.prog.keyLits (Tryz.prog.types.size + 1) 47 [.int .u32 (x.1 : Int), .int .i64 x.2]).map _ = _
  rw [h3]; rfl
/-- what is held, as a value -/
def hldC (h : Hld) : List Value := [.int .u32 (h.id.1 : Int), .int .i64 h.id.2, .int .i64 h.uses, .string (bs h.text)]
abbrev hldV (h : Hld) : Value := .agg #[.int .u32 (h.id.1 : Int), .int .i64 h.id.2, .int .i64 h.uses, .string (bs h.text)]
def HldW (h : Hld) : Prop := IdOk h.id ∧ -9223372036854775808 ≤ h.uses ∧ h.uses ≤ 9223372036854775807
instance (h : Hld) : Decidable (HldW h) := by unfold HldW IdOk; infer_instance
def hldElem : Value → Option (DataW Unit × List MemPlace)
  | .agg cs => match cs.toList with
    | [.int .u32 p, .int .i64 l, .int .i64 u, .string s] => if 0 ≤ p ∧ HldW ⟨(p.toNat, l), u, s.data.toList⟩ then some (hldU ⟨(p.toNat, l), u, s.data.toList⟩, []) else none
    | _ => none
  | _ => none
theorem hldElem_mk {h : Hld} (hw : HldW h) : hldElem (hldV h) = some (hldU h, []) := by
  show (if 0 ≤ (h.id.1 : Int) ∧ HldW ⟨(((h.id.1 : Int)).toNat, h.id.2), h.uses, (bs h.text).data.toList⟩ then some (hldU ⟨(((h.id.1 : Int)).toNat, h.id.2), h.uses, (bs h.text).data.toList⟩, []) else none) = _
  rw [show ((h.id.1 : Int)).toNat = h.id.1 by omega, bs_toList]
  exact if_pos ⟨by omega, hw⟩
theorem hldElem_inv {v : Value} {z : DataW Unit × List MemPlace} (hz : hldElem v = some z) : ∃ h, v = hldV h ∧ z = (hldU h, []) ∧ HldW h := by
  unfold hldElem at hz
  split at hz
  · next cs =>
    split at hz
    · next p l u s hcs =>
      split at hz
      · next hw =>
        injection hz with hz
        refine ⟨⟨(p.toNat, l), u, s.data.toList⟩, ?_, hz.symm, hw.2⟩
        have e : cs = #[.int .u32 p, .int .i64 l, .int .i64 u, .string s] := by rw [← Array.toArray_toList (xs := cs), hcs]
        rw [e]
        show _ = Value.agg #[.int .u32 ((p.toNat : Nat) : Int), .int .i64 l, .int .i64 u, .string (bs s.data.toList)]
        rw [bs_of, show ((p.toNat : Nat) : Int) = p by have := hw.1; omega]
      · cases hz
    · cases hz
  · cases hz
theorem hldU_inj {h k : Hld} (e : hldU h = hldU k) : h = k := by
  unfold hldU at e
  injection e with e
  injection e with e1 e
  injection e with e2 e
  injection e with e3 e
  injection e with e4 _
  injection e1 with e1
  injection e2 with e2
  injection e3 with e3
  injection e4 with e4
  injection e1 with _ e1
  injection e2 with _ e2
  injection e3 with _ e3
  injection e4 with e4
  obtain ⟨⟨p, l⟩, u, s⟩ := h
  obtain ⟨⟨p', l'⟩, u', s'⟩ := k
  simp only at e1 e2 e3 e4
  have e1' : p = p' := by omega
  subst e1'; subst e2; subst e3; subst e4
  rfl
theorem zeroH (w : World) : (zeroValue 82).run Tryz.prog w = .ok (.agg #[.int .u32 0, .int .i64 0, .int .i64 0, .string ByteArray.empty]) w := by kernel_rfl
theorem hldZ_w : HldW hldZ := by decide
theorem zeroHld : hldElem (.agg #[.int .u32 0, .int .i64 0, .int .i64 0, .string ByteArray.empty]) = some (hldU hldZ, []) := hldElem_mk hldZ_w
/-- a bin in block b, its map in block mb -/
structure OBin (b mb : Nat) (L : HldL) (w : World) : Prop where
  row : w.heap[b]? = some (.cells #[.map (some mb)] 119 (0, 0))
  map : w.ownsMap Tryz.prog 47 hldElem mb L.length (dataB L)
  ne : b ≠ mb
theorem OBin.lt {b mb : Nat} {L : HldL} {w : World} (h : OBin b mb L w) : b < w.heap.size := (Array.getElem?_eq_some_iff.1 h.row).1
theorem OBin.cell {b mb : Nat} {L : HldL} {w : World} (h : OBin b mb L w) : w.cell? ⟨b, 0, none⟩ = some (.map (some mb)) := by rw [cell_of_row w b 0 _ _ _ h.row]; rfl
theorem OBin.keep {b mb : Nat} {L : HldL} {w w' : World} (h : OBin b mb L w) (h1 : w'.heap[b]? = w.heap[b]?) (h2 : w'.heap[mb]? = w.heap[mb]?) : OBin b mb L w' := by
  refine ⟨h1.trans h.row, ?_, h.ne⟩
  obtain ⟨es, clock, e1, e2⟩ := h.map
  exact ⟨es, clock, h2.trans e1, e2⟩
theorem OBin.below {b mb : Nat} {L : HldL} {w w' : World} (h : OBin b mb L w) (hb : Below w.heap.size w w') : OBin b mb L w' :=
  h.keep (hb.block b h.lt) (hb.block mb h.map.lt)
theorem OBin.grown {b mb : Nat} {L : HldL} {w w' : World} {r : Option Nat} (h : OBin b mb L w) (hg : w.grownBy w' r) (h1 : some b ≠ r) (h2 : some mb ≠ r) : OBin b mb L w' :=
  h.keep (hg.block b h.lt h1) (hg.block mb h.map.lt h2)
/-- the map's bound is its size -/
theorem ownsMap_tight {w : World} {mb n : Nat} {L : HldL} (h : w.ownsMap Tryz.prog 47 hldElem mb n (dataB L)) : w.ownsMap Tryz.prog 47 hldElem mb L.length (dataB L) := by
  obtain ⟨es, clock, hb, F, _, hD⟩ := h
  refine ⟨es, clock, hb, F, ?_, hD⟩
  have e : Maps.size (dataB L) = es.size := by rw [hD]; simp [Maps.size, length_sorted]
  rw [size_dataB] at e
  omega
/-- what lies at a key -/
def atB (L : HldL) (x : Idn) : Hld := (getB L x).getD hldZ
theorem OBin.look {b mb : Nat} {L : HldL} {w : World} (h : OBin b mb L w) (hL : ∀ y ∈ L, IdOk y.id) {x : Idn} (hx : IdOk x) :
    (Instr.lookup 117 (.map (some mb)) (idV x) true).run Tryz.prog w = .ok (.tuple #[hldV (atB L x), .bool (getB L x).isSome]) w ∧ HldW (atB L x) := by
  obtain ⟨v, ps, hr, hv⟩ := h.map.look_ok lawI Tryz.underlying117 (zeroH w) zeroHld (keyI hx)
  obtain ⟨y, rfl, e, hw⟩ := hldElem_inv hv
  injection e with e _
  rw [atKey_dataB hL hx] at e
  obtain rfl := hldU_inj e
  exact ⟨by rw [hr, has_dataB hL hx]; rfl, hw⟩
theorem OBin.look_some {b mb : Nat} {L : HldL} {w : World} (h : OBin b mb L w) (hL : ∀ y ∈ L, IdOk y.id) {x : Idn} (hx : IdOk x) {o : Hld} (hg : getB L x = some o) :
    (Instr.lookup 117 (.map (some mb)) (idV x) true).run Tryz.prog w = .ok (.tuple #[hldV o, .bool true]) w := by
  have := (h.look hL hx).1
  unfold atB at this
  rw [hg] at this
  exact this
theorem OBin.look_none {b mb : Nat} {L : HldL} {w : World} (h : OBin b mb L w) (hL : ∀ y ∈ L, IdOk y.id) {x : Idn} (hx : IdOk x) (hg : getB L x = none) :
    (Instr.lookup 117 (.map (some mb)) (idV x) true).run Tryz.prog w = .ok (.tuple #[hldV hldZ, .bool false]) w := by
  have := (h.look hL hx).1
  unfold atB at this
  rw [hg] at this
  exact this
theorem OBin.len {b mb : Nat} {L : HldL} {w : World} (h : OBin b mb L w) : (Builtin.len_ #[117] 3 #[.map (some mb)]).run Tryz.prog w = .ok (.int .i64 (L.length : Int)) w := by
  have := h.map.len Tryz.underlying117 3
  rw [size_dataB] at this
  exact this
theorem gb_of_below {w w' : World} {r : Option Nat} (h : Below w.heap.size w w') : w.grownBy w' r := ⟨h.os, h.tape, h.output, h.size, fun k hk _ => h.block k hk⟩
/-- the bin with a piece more, or another one at its key -/
theorem OBin.put {b mb : Nat} {L : HldL} {w w' : World} (h : OBin b mb L w) (hs : SrtB L) (hL : ∀ y ∈ L, IdOk y.id ∧ 0 ≤ y.id.2) (o : Hld) (ho : IdOk o.id ∧ 0 ≤ o.id.2) {n : Nat}
    (hm : w'.ownsMap Tryz.prog 47 hldElem mb n ((dataB L).put (idLit o.id) (hldU o))) (hg : w.grownBy w' (some mb)) : OBin b mb (setB o L) w' := by
  refine ⟨(hg.block b h.lt (fun e => h.ne (Option.some.inj e))).trans h.row, ?_, h.ne⟩
  rw [put_dataB hs hL o ho] at hm
  exact ownsMap_tight hm
set_option maxRecDepth 100000 in
theorem BnNew_any (w : World) : Calls Tryz.prog 20 #[] w fun e w' => ∃ b mb, e = .returned (.pointer (some ⟨b, 0, none⟩)) ∧ OBin b mb [] w' ∧ w.heap.size ≤ b ∧ w.heap.size ≤ mb ∧ Below w.heap.size w w' := by
  have hmm := @run_makeMap Tryz.prog
  go_enter Tryz.func20, Tryz.ntmps20
  go_wp2
  go_ret
  have h1 := World.ownsMap_made w Tryz.prog 47 hldElem
  refine ⟨_, w.heap.size, rfl, ⟨by have := heap_alloc_new (w.alloc (.map #[] 0)) (.cells #[.map (some w.heap.size)] 119); simpa using this, h1.alloc _, by simp⟩, by simp, Nat.le_refl _, ((Below.refl _ _).alloc (Nat.le_refl _) _).alloc (by simp) _⟩
theorem BnRight_any (s : ByteArray) (hs : s.size ≤ 1000000000) (w : World) : Calls Tryz.prog 65 #[.string s] w fun e w' => e = .returned (.bool (rightB s.data.toList)) ∧ w = w' := by
  have hz := size_toList s
  by_cases h1 : 1 ≤ s.size
  · have h1i : (s.size : Int) ≥ 1 := by omega
    by_cases h2 : s.size ≤ 64
    · have h2i : (s.size : Int) ≤ 64 := by omega
      have HR : Hid (rightB s.data.toList = true) := Lib.hid (rightB_iff.2 (by omega))
      clear h1 h2 hz
      go_enter Tryz.func65, Tryz.ntmps65
      go_wp2
      go_ret
      exact ⟨by rw [HR.out]; rfl, rfl⟩
    · have h2i : ¬ (s.size : Int) ≤ 64 := by omega
      have HR : Hid (rightB s.data.toList = false) := Lib.hid (by rw [Bool.eq_false_iff]; intro e; have := rightB_iff.1 e; omega)
      clear h1 h2 hz
      go_enter Tryz.func65, Tryz.ntmps65
      go_wp2
      go_ret
      exact ⟨by rw [HR.out]; rfl, rfl⟩
  · have h1i : ¬ (s.size : Int) ≥ 1 := by omega
    have HR : Hid (rightB s.data.toList = false) := Lib.hid (by rw [Bool.eq_false_iff]; intro e; have := rightB_iff.1 e; omega)
    clear h1 hz
    go_enter Tryz.func65, Tryz.ntmps65
    go_wp2
    go_ret
    exact ⟨by rw [HR.out]; rfl, rfl⟩
/-- getting: a text, or an error -/
def getRes (L : HldL) (x : Idn) : Bytes × Int := match getB L x with
  | some h => (h.text, 0)
  | none => ([], 5)
set_option maxRecDepth 100000 in
set_option maxHeartbeats 1000000 in
theorem BnGet_any (a : Nat → Addr) (b mb : Nat) (L : HldL) (hL : ∀ y ∈ L, IdOk y.id) (x : Idn) (hx : IdOk x) (w : World) (hB : OBin b mb L w) (hs : SomeS [4] a w) :
    Calls Tryz.prog 23 #[.pointer (some ⟨b, 0, none⟩), idV x] w fun e w' => ∃ r, e = .returned (.tuple #[VT (getRes L x).1, r]) ∧ EV a r (getRes L x).2 (-1) w' ∧ Below w.heap.size w w' := by
  have hb0 : Below w.heap.size w (w.alloc (.cells #[.int .u32 (x.1 : Int), .int .i64 x.2] 47)) := (Below.refl _ w).alloc (Nat.le_refl _) _
  have HB0 := Lib.hid hb0
  have HBB := Lib.hid (hB.below hb0)
  have HX := Lib.hid (Box2.mk' w (.int .u32 (x.1 : Int)) (.int .i64 x.2) 47)
  have HS := Lib.hid (hs.below hb0)
  cases hg : getB L x with
  | some o =>
    have LK := Lib.hid (fun w' (h : OBin b mb L w') => h.look_some hL hx hg)
    have HR : Hid (getRes L x = (o.text, 0)) := Lib.hid (by unfold getRes; rw [hg])
    clear hb0 hs hB hg hL hx
    go_enter Tryz.func23, Tryz.ntmps23
    go_wp2_with fail
    generalize w.alloc (.cells #[.int .u32 (x.1 : Int), .int .i64 x.2] 47) = w0 at *
    go_wp2
    have hS0 : Below w0.heap.size w0 w0.drew := (Below.refl _ _).drew
    refine region_S (fun w' => Below w0.heap.size w0 w') 11 (by kernel_rfl) (by kernel_rfl) ?_
    refine take_S 0 rfl (by kernel_rfl) (by kernel_rfl) hS0 (fun w' hS => by go_simp; rfl) ?_
    refine take_S 1 rfl (by kernel_rfl) (by kernel_rfl) hS0 (fun w' hS => by go_simp; rfl) ?_
    refine take_S 2 rfl (by kernel_rfl) (by kernel_rfl) hS0 (fun w' hS => by go_simp; rfl) ?_
    refine take_S 3 rfl (by kernel_rfl) (by kernel_rfl) hS0 (fun w' hS => by have A0 := (HBB.out.below hS).cell; go_simp; rfl) ?_
    refine take_S 4 rfl (by kernel_rfl) (by kernel_rfl) hS0 (fun w' hS => by have A0 := (HX.out.below hS HX.out.lt).c0; have A1 := (HX.out.below hS HX.out.lt).c1; go_simp; rfl) ?_
    refine take_S 5 rfl (by kernel_rfl) (by kernel_rfl) hS0 (fun w' hS => by have A0 := LK.out w' (HBB.out.below hS); go_simp; rfl) ?_
    refine take_S 6 rfl (by kernel_rfl) (by kernel_rfl) hS0 (fun w' hS => by go_simp; rfl) ?_
    refine take_S 7 rfl (by kernel_rfl) (by kernel_rfl) hS0 (fun w' hS => by go_simp; rfl) ?_
    refine take_S 8 rfl (by kernel_rfl) (by kernel_rfl) hS0 (fun w' hS => by go_simp; rfl) ?_
    refine carry_S 9 rfl (by kernel_rfl) (by decide) (by kernel_rfl) (fun K hK => ?_)
    go_simp
    have hS5 : Below w0.heap.size w0 ((w0.alloc (.cells #[.int .u32 0, .int .i64 0, .int .i64 0, .string ⟨#[]⟩] 82)).drew) := ((Below.refl _ w0).alloc (Nat.le_refl _) _).drew
    have hbh : Box4 w0.heap.size (.int .u32 0) (.int .i64 0) (.int .i64 0) (.string ⟨#[]⟩) ((w0.alloc (.cells #[.int .u32 0, .int .i64 0, .int .i64 0, .string ⟨#[]⟩] 82)).drew) := Box4.mk' w0.drew _ _ _ _ _
    refine hK _ _ hS5 ?_
    clear hK K
    try simp only [Act.put, List.getElem_toArray, List.getElem_cons_succ, List.getElem_cons_zero, List.setIfInBounds_toArray, List.set_cons_zero, List.set_cons_succ]
    generalize (w0.alloc (.cells #[.int .u32 0, .int .i64 0, .int .i64 0, .string ⟨#[]⟩] 82)).drew = w6a at *
    have HBH0 := Lib.hid hbh
    obtain ⟨b0, b1, b2, b3, hf⟩ := hbh
    have f0 := hf 0
    have f1 := hf 1
    have f2 := hf 2
    have f3 := hf 3
    refine carry_S 10 rfl (by kernel_rfl) (by decide) (by kernel_rfl) (fun K hK => ?_)
    go_simp
    have hS6 := below_set4 hS5 (Nat.le_refl _) (.int .u32 (o.id.1 : Int)) (.int .i64 o.id.2) (.int .i64 o.uses) (.string (bs o.text))
    refine hK _ _ hS6 (forced_S (by kernel_rfl) ?_)
    clear hK K
    try simp only [Act.put, List.getElem_toArray, List.getElem_cons_succ, List.getElem_cons_zero, List.setIfInBounds_toArray, List.set_cons_zero, List.set_cons_succ]
    simp only [List.drop_succ_cons, List.drop_zero]
    have HBH := Lib.hid (HBH0.out.set (.int .u32 (o.id.1 : Int)) (.int .i64 o.id.2) (.int .i64 o.uses) (.string (bs o.text)))
    generalize ((((w6a.setCell ⟨w0.heap.size, 0, none⟩ (.int .u32 (o.id.1 : Int))).setCell ⟨w0.heap.size, 1, none⟩ (.int .i64 o.id.2)).setCell ⟨w0.heap.size, 2, none⟩ (.int .i64 o.uses)).setCell ⟨w0.heap.size, 3, none⟩ (.string (bs o.text))) = w6 at *
    clear hS5 hS0 HBH0 b0 b1 b2 b3 hf f0 f1 f2 f3
    obtain ⟨h0, h1, h2, h3, _⟩ := HBH.out
    have HR9 := Lib.hid hS6
    go_wp2
    go_ret2
    exact ⟨_, by rw [HR.out]; rfl, by rw [HR.out]; exact EV.none a _, HB0.out.trans (HR9.out.mono HB0.out.size)⟩
  | none =>
    have LK := Lib.hid (fun w' (h : OBin b mb L w') => h.look_none hL hx hg)
    have HR : Hid (getRes L x = ([], 5)) := Lib.hid (by unfold getRes; rw [hg])
    clear hb0 hs hB hg hL hx
    go_enter Tryz.func23, Tryz.ntmps23
    go_wp2_with fail
    generalize w.alloc (.cells #[.int .u32 (x.1 : Int), .int .i64 x.2] 47) = w0 at *
    go_wp2
    have hS0 : Below w0.heap.size w0 w0.drew := (Below.refl _ _).drew
    refine region_S (fun w' => Below w0.heap.size w0 w') 11 (by kernel_rfl) (by kernel_rfl) ?_
    refine take_S 0 rfl (by kernel_rfl) (by kernel_rfl) hS0 (fun w' hS => by go_simp; rfl) ?_
    refine take_S 1 rfl (by kernel_rfl) (by kernel_rfl) hS0 (fun w' hS => by go_simp; rfl) ?_
    refine take_S 2 rfl (by kernel_rfl) (by kernel_rfl) hS0 (fun w' hS => by go_simp; rfl) ?_
    refine take_S 3 rfl (by kernel_rfl) (by kernel_rfl) hS0 (fun w' hS => by have A0 := (HBB.out.below hS).cell; go_simp; rfl) ?_
    refine take_S 4 rfl (by kernel_rfl) (by kernel_rfl) hS0 (fun w' hS => by have A0 := (HX.out.below hS HX.out.lt).c0; have A1 := (HX.out.below hS HX.out.lt).c1; go_simp; rfl) ?_
    refine take_S 5 rfl (by kernel_rfl) (by kernel_rfl) hS0 (fun w' hS => by have A0 := LK.out w' (HBB.out.below hS); go_simp; rfl) ?_
    refine take_S 6 rfl (by kernel_rfl) (by kernel_rfl) hS0 (fun w' hS => by go_simp; rfl) ?_
    refine take_S 7 rfl (by kernel_rfl) (by kernel_rfl) hS0 (fun w' hS => by go_simp; rfl) ?_
    refine take_S 8 rfl (by kernel_rfl) (by kernel_rfl) hS0 (fun w' hS => by go_simp; rfl) ?_
    refine carry_S 9 rfl (by kernel_rfl) (by decide) (by kernel_rfl) (fun K hK => ?_)
    go_simp
    have hS5 : Below w0.heap.size w0 ((w0.alloc (.cells #[.int .u32 0, .int .i64 0, .int .i64 0, .string ⟨#[]⟩] 82)).drew) := ((Below.refl _ w0).alloc (Nat.le_refl _) _).drew
    have hbh : Box4 w0.heap.size (.int .u32 0) (.int .i64 0) (.int .i64 0) (.string ⟨#[]⟩) ((w0.alloc (.cells #[.int .u32 0, .int .i64 0, .int .i64 0, .string ⟨#[]⟩] 82)).drew) := Box4.mk' w0.drew _ _ _ _ _
    refine hK _ _ hS5 ?_
    clear hK K
    try simp only [Act.put, List.getElem_toArray, List.getElem_cons_succ, List.getElem_cons_zero, List.setIfInBounds_toArray, List.set_cons_zero, List.set_cons_succ]
    generalize (w0.alloc (.cells #[.int .u32 0, .int .i64 0, .int .i64 0, .string ⟨#[]⟩] 82)).drew = w6a at *
    have HBH0 := Lib.hid hbh
    obtain ⟨b0, b1, b2, b3, hf⟩ := hbh
    have f0 := hf 0
    have f1 := hf 1
    have f2 := hf 2
    have f3 := hf 3
    refine carry_S 10 rfl (by kernel_rfl) (by decide) (by kernel_rfl) (fun K hK => ?_)
    go_simp
    have hS6 := below_set4 hS5 (Nat.le_refl _) (.int .u32 (hldZ.id.1 : Int)) (.int .i64 hldZ.id.2) (.int .i64 hldZ.uses) (.string (bs hldZ.text))
    refine hK _ _ hS6 (forced_S (by kernel_rfl) ?_)
    clear hK K
    try simp only [Act.put, List.getElem_toArray, List.getElem_cons_succ, List.getElem_cons_zero, List.setIfInBounds_toArray, List.set_cons_zero, List.set_cons_succ]
    simp only [List.drop_succ_cons, List.drop_zero]
    have HBH := Lib.hid (HBH0.out.set (.int .u32 (hldZ.id.1 : Int)) (.int .i64 hldZ.id.2) (.int .i64 hldZ.uses) (.string (bs hldZ.text)))
    generalize ((((w6a.setCell ⟨w0.heap.size, 0, none⟩ (.int .u32 (hldZ.id.1 : Int))).setCell ⟨w0.heap.size, 1, none⟩ (.int .i64 hldZ.id.2)).setCell ⟨w0.heap.size, 2, none⟩ (.int .i64 hldZ.uses)).setCell ⟨w0.heap.size, 3, none⟩ (.string (bs hldZ.text))) = w6 at *
    clear hS5 hS0 HBH0 b0 b1 b2 b3 hf f0 f1 f2 f3
    obtain ⟨h0, h1, h2, h3, _⟩ := HBH.out
    have HR9 := Lib.hid hS6
    have s4 : w6.cell? ⟨2, 0, none⟩ = some (sval a 4) := (HS.out.below hS6) 4 (by simp)
    unfold sval at s4
    clear hS6
    go_wp2
    go_quiet (fail)
    go_wp2
    go_ret2
    exact ⟨_, by rw [HR.out]; rfl, by rw [HR.out]; exact EV.sent a _ 4 (by decide), below_drewN (HB0.out.trans (HR9.out.mono HB0.out.size)) _⟩
end Go.Proofs.YtpanoplcamdnkaaGreatDoor
/- bins in memory: walk of Put. Condition: the sentinels that are read lie as named (SomeS). -/
namespace Go.Proofs.YtpanoplcamdnkaaGreatDoor
open Go.RowKit Go.Lib Go.Maps Go.WideMaps

theorem gb_setNew {w w1 : World} {r : Option Nat} {b : Nat} (h : w.grownBy w1 r) (hb : w.heap.size ≤ b) (j : Nat) (v : Value) : w.grownBy (w1.setCell ⟨b, j, none⟩ v) r :=
  ⟨h.os, h.tape, h.output, by have := h.size; simpa [World.setCell] using this, fun i hi hne => (set_keepI (by omega)).trans (h.block i hi hne)⟩
theorem OBin.drew {b mb : Nat} {L : HldL} {w : World} (h : OBin b mb L w) : OBin b mb L w.drew := h.keep rfl rfl
theorem OBin.set {b mb d : Nat} {L : HldL} {w : World} (h : OBin b mb L w) (h1 : b ≠ d) (h2 : mb ≠ d) (j : Nat) (v : Value) : OBin b mb L (w.setCell ⟨d, j, none⟩ v) :=
  h.keep (set_keepI h1) (set_keepI h2)
def PutPost (a : Nat → Addr) (b mb : Nat) (L : HldL) (t : Bytes) (w : World) (e : Ending) (w' : World) : Prop :=
  ∃ r, e = .returned (.tuple #[idV (putB t L).2.1, .bool (putB t L).2.2.1, r]) ∧ ES a r (putB t L).2.2.2 ∧ OBin b mb (putB t L).1 w' ∧ w.grownBy w' (some mb)
theorem put_bad {a : Nat → Addr} {b mb : Nat} {L : HldL} {t : Bytes} {w w' : World} {c : Int} {r : Value} (h : putB t L = (L, (0, 0), false, c)) (hr : ES a r c) (hB : OBin b mb L w') (hb : Below w.heap.size w w') :
    PutPost a b mb L t w (.returned (.tuple #[idV (0, 0), .bool false, r])) w' := ⟨r, by rw [h], by rw [h]; exact hr, by rw [h]; exact hB, gb_of_below hb⟩
theorem put_ok {a : Nat → Addr} {b mb : Nat} {L L' : HldL} {t : Bytes} {w w' : World} {x : Idn} {q : Bool} {r : Value} (h : putB t L = (L', x, q, 0)) (hr : ES a r 0) (hB : OBin b mb L' w') (hg : w.grownBy w' (some mb)) :
    PutPost a b mb L t w (.returned (.tuple #[idV x, .bool q, r])) w' := ⟨r, by rw [h], by rw [h]; exact hr, by rw [h]; exact hB, hg⟩
set_option maxRecDepth 100000 in
set_option maxHeartbeats 2000000 in
theorem BnPut_any (a : Nat → Addr) (b mb : Nat) (L : HldL) (n : Int) (hn : n ≤ 4611686018427387904) (hL : BinOk n L) (hl : L.length ≤ 1000000) (t : Bytes) (ht : t.length ≤ 1000000) (w : World) (hB : OBin b mb L w) (hs : SomeS [1, 6, 9] a w) :
    Calls Tryz.prog 22 #[.pointer (some ⟨b, 0, none⟩), VT t] w (PutPost a b mb L t w) := by
  have hb0 : Below w.heap.size w (w.alloc (.cells #[.int .u32 0, .int .i64 0] 47)) := (Below.refl _ w).alloc (Nat.le_refl _) _
  have HB0 := Lib.hid hb0
  have HBIN := Lib.hid hB
  have HB0B := Lib.hid (hB.below hb0)
  have HBR := Lib.hid (Box2.mk' w (.int .u32 0) (.int .i64 0) 47)
  have HS : Hid (∀ w', Below w.heap.size w w' → SomeS [1, 6, 9] a w') := Lib.hid (fun w' h => hs.below h)
  have hg1 : 3 < w.heap.size := World.block_lt_of_cell? w _ (hs 1 (by simp))
  have hg6 : 1 < w.heap.size := World.block_lt_of_cell? w _ (hs 6 (by simp))
  have hg9 : 4 < w.heap.size := World.block_lt_of_cell? w _ (hs 9 (by simp))
  have hbl := hB.lt
  have hml := hB.map.lt
  have hsz : (bs t).size ≤ maxLen := by rw [bs_size]; unfold maxLen; omega
  have HLEN : Hid (L.length < maxLen) := Lib.hid (by unfold maxLen; omega)
  have HOK := Lib.hid hL
  obtain ⟨x, hx⟩ : ∃ x, idOf t = x := ⟨_, rfl⟩
  have hix : IdOk x ∧ 0 ≤ x.2 := by
    rw [← hx]
    exact ⟨⟨prOf_lt _, by show (-9223372036854775808 : Int) ≤ ((t.length : Nat) : Int); omega, by show ((t.length : Nat) : Int) ≤ _; omega⟩, by show (0 : Int) ≤ ((t.length : Nat) : Int); omega⟩
  have HIX := Lib.hid hix
  have HKEY := Lib.hid (keyI hix.1)
  have HID : Hid (∀ w, Calls Tryz.prog 24 #[.string (bs t)] w fun e w' => e = .returned (.agg #[.int .u32 (x.1 : Int), .int .i64 x.2]) ∧ Below w.heap.size w w') := Lib.hid (fun w => by
    have := ID_any (bs t) w hsz
    rw [bs_toList, bs_size] at this
    rw [← hx]; exact this)
  have hrt : ∀ y, rightB t = y → ∀ w, Calls Tryz.prog 65 #[.string (bs t)] w fun e w' => e = .returned (.bool y) ∧ w = w' := fun y hy w => by
    have := BnRight_any (bs t) (by rw [bs_size]; omega) w
    rw [bs_toList, hy] at this
    exact this
  have HRTa := Lib.hid hrt
  clear hb0 hs hB hL hrt hix hsz
  cases hr : rightB t with
  | false =>
    have HR : Hid (putB t L = (L, (0, 0), false, 2)) := Lib.hid (if_pos hr)
    have HRT := Lib.hid (HRTa.out false hr)
    cases hg : getB L x with
    | some o =>
      have LK := Lib.hid (fun w' (h : OBin b mb L w') => h.look_some HOK.out.idok HIX.out.1 hg)
      clear hr hg hx
      go_enter Tryz.func22, Tryz.ntmps22
      go_wp2_with fail
      generalize w.alloc (.cells #[.int .u32 0, .int .i64 0] 47) = w0 at *
      refine (HID.out w0).mono ?_
      rintro e w1 ⟨rfl, hb1⟩
      have hX1 : Box2 w1.heap.size (.int .u32 (x.1 : Int)) (.int .i64 x.2) (w1.alloc (.cells #[.int .u32 (x.1 : Int), .int .i64 x.2] 47)) := Box2.mk' _ _ _ _
      have hb2 := hb1.alloc hb1.size (.cells #[.int .u32 (x.1 : Int), .int .i64 x.2] 47)
      have hlt1 : w.heap.size < w1.heap.size := Nat.lt_of_lt_of_le HBR.out.lt hb1.size
      go_wp2_with fail
      generalize w1.alloc (.cells #[.int .u32 (x.1 : Int), .int .i64 x.2] 47) = w2 at *
      have HX := Lib.hid hX1
      have HBB := Lib.hid (HB0B.out.below hb2)
      have HB2 := Lib.hid (HB0.out.trans (hb2.mono HB0.out.size))
      have HBR2 := Lib.hid (HBR.out.below hb2 HBR.out.lt)
      clear hX1 hb1 hb2
      go_wp2
      have hS0 : Below w2.heap.size w2 w2.drew := (Below.refl _ _).drew
      refine region_S (fun w' => Below w2.heap.size w2 w') 11 (by kernel_rfl) (by kernel_rfl) ?_
      refine take_S 0 rfl (by kernel_rfl) (by kernel_rfl) hS0 (fun w' hS => by go_simp; rfl) ?_
      refine take_S 1 rfl (by kernel_rfl) (by kernel_rfl) hS0 (fun w' hS => by go_simp; rfl) ?_
      refine take_S 2 rfl (by kernel_rfl) (by kernel_rfl) hS0 (fun w' hS => by go_simp; rfl) ?_
      refine take_S 3 rfl (by kernel_rfl) (by kernel_rfl) hS0 (fun w' hS => by have A0 := (HBB.out.below hS).cell; go_simp; rfl) ?_
      refine take_S 4 rfl (by kernel_rfl) (by kernel_rfl) hS0 (fun w' hS => by have A0 := (HX.out.below hS HX.out.lt).c0; have A1 := (HX.out.below hS HX.out.lt).c1; go_simp; rfl) ?_
      refine take_S 5 rfl (by kernel_rfl) (by kernel_rfl) hS0 (fun w' hS => by have A0 := LK.out w' (HBB.out.below hS); go_simp; rfl) ?_
      refine take_S 6 rfl (by kernel_rfl) (by kernel_rfl) hS0 (fun w' hS => by go_simp; rfl) ?_
      refine take_S 7 rfl (by kernel_rfl) (by kernel_rfl) hS0 (fun w' hS => by go_simp; rfl) ?_
      refine take_S 8 rfl (by kernel_rfl) (by kernel_rfl) hS0 (fun w' hS => by go_simp; rfl) ?_
      refine carry_S 9 rfl (by kernel_rfl) (by decide) (by kernel_rfl) (fun K hK => ?_)
      go_simp
      have hS5 : Below w2.heap.size w2 ((w2.alloc (.cells #[.int .u32 0, .int .i64 0, .int .i64 0, .string ⟨#[]⟩] 82)).drew) := ((Below.refl _ w2).alloc (Nat.le_refl _) _).drew
      have hbh : Box4 w2.heap.size (.int .u32 0) (.int .i64 0) (.int .i64 0) (.string ⟨#[]⟩) ((w2.alloc (.cells #[.int .u32 0, .int .i64 0, .int .i64 0, .string ⟨#[]⟩] 82)).drew) := Box4.mk' w2.drew _ _ _ _ _
      refine hK _ _ hS5 ?_
      clear hK K
      try simp only [Act.put, List.getElem_toArray, List.getElem_cons_succ, List.getElem_cons_zero, List.setIfInBounds_toArray, List.set_cons_zero, List.set_cons_succ]
      generalize (w2.alloc (.cells #[.int .u32 0, .int .i64 0, .int .i64 0, .string ⟨#[]⟩] 82)).drew = w6a at *
      have HBH0 := Lib.hid hbh
      obtain ⟨b0, b1, b2, b3, hf⟩ := hbh
      have f0 := hf 0
      have f1 := hf 1
      have f2 := hf 2
      have f3 := hf 3
      refine carry_S 10 rfl (by kernel_rfl) (by decide) (by kernel_rfl) (fun K hK => ?_)
      go_simp
      have hS6 := below_set4 hS5 (Nat.le_refl _) (.int .u32 (o.id.1 : Int)) (.int .i64 o.id.2) (.int .i64 o.uses) (.string (bs o.text))
      refine hK _ _ hS6 (forced_S (by kernel_rfl) ?_)
      clear hK K
      try simp only [Act.put, List.getElem_toArray, List.getElem_cons_succ, List.getElem_cons_zero, List.setIfInBounds_toArray, List.set_cons_zero, List.set_cons_succ]
      simp only [List.drop_succ_cons, List.drop_zero]
      have HBH := Lib.hid (HBH0.out.set (.int .u32 (o.id.1 : Int)) (.int .i64 o.id.2) (.int .i64 o.uses) (.string (bs o.text)))
      generalize ((((w6a.setCell ⟨w2.heap.size, 0, none⟩ (.int .u32 (o.id.1 : Int))).setCell ⟨w2.heap.size, 1, none⟩ (.int .i64 o.id.2)).setCell ⟨w2.heap.size, 2, none⟩ (.int .i64 o.uses)).setCell ⟨w2.heap.size, 3, none⟩ (.string (bs o.text))) = w6 at *
      clear hS5 hS0 HBH0 b0 b1 b2 b3 hf f0 f1 f2 f3
      obtain ⟨h0, h1, h2, h3, _⟩ := HBH.out
      have HB6 := Lib.hid (HB2.out.trans (hS6.mono HB2.out.size))
      have HBB6 := Lib.hid (HBB.out.below hS6)
      have HX6 := Lib.hid (HX.out.below hS6 HX.out.lt)
      have HBR6 := Lib.hid (HBR2.out.below hS6 HBR2.out.lt)
      clear hS6
      go_wp2_with fail
      refine (HRT.out _).mono ?_
      rintro e w7 ⟨rfl, rfl⟩
      obtain ⟨r0, r1, g0, g1⟩ := HBR6.out
      obtain ⟨t0, t1, _⟩ := HBR6.out.rd (.int .u32 0) (.int .i64 0)
      have s0 : w6.cell? ⟨3, 0, none⟩ = some (sval a 1) := (HS.out w6 HB6.out) 1 (by simp)
      unfold sval at s0
      have hne : ¬ (3 = w.heap.size) := by have := hg1; omega
      have HB9 := Lib.hid (below_set2 HB6.out (Nat.le_refl _) (.int .u32 0) (.int .i64 0)).drew
      go_wp2
      go_region
      go_wp2
      refine bodyPost_ret (v := .tuple #[idV (0, 0), .bool false, .iface 361 (.pointer (some (a 1)))]) (by simp [results, Tryz.results22, go_sem, t0, t1]) rfl ?_
      exact put_bad HR.out (ES.sent a 1 (by decide)) (HBIN.out.below HB9.out) HB9.out
    | none =>
      have LK := Lib.hid (fun w' (h : OBin b mb L w') => h.look_none HOK.out.idok HIX.out.1 hg)
      clear hr hg hx
      go_enter Tryz.func22, Tryz.ntmps22
      go_wp2_with fail
      generalize w.alloc (.cells #[.int .u32 0, .int .i64 0] 47) = w0 at *
      refine (HID.out w0).mono ?_
      rintro e w1 ⟨rfl, hb1⟩
      have hX1 : Box2 w1.heap.size (.int .u32 (x.1 : Int)) (.int .i64 x.2) (w1.alloc (.cells #[.int .u32 (x.1 : Int), .int .i64 x.2] 47)) := Box2.mk' _ _ _ _
      have hb2 := hb1.alloc hb1.size (.cells #[.int .u32 (x.1 : Int), .int .i64 x.2] 47)
      have hlt1 : w.heap.size < w1.heap.size := Nat.lt_of_lt_of_le HBR.out.lt hb1.size
      go_wp2_with fail
      generalize w1.alloc (.cells #[.int .u32 (x.1 : Int), .int .i64 x.2] 47) = w2 at *
      have HX := Lib.hid hX1
      have HBB := Lib.hid (HB0B.out.below hb2)
      have HB2 := Lib.hid (HB0.out.trans (hb2.mono HB0.out.size))
      have HBR2 := Lib.hid (HBR.out.below hb2 HBR.out.lt)
      clear hX1 hb1 hb2
      go_wp2
      have hS0 : Below w2.heap.size w2 w2.drew := (Below.refl _ _).drew
      refine region_S (fun w' => Below w2.heap.size w2 w') 11 (by kernel_rfl) (by kernel_rfl) ?_
      refine take_S 0 rfl (by kernel_rfl) (by kernel_rfl) hS0 (fun w' hS => by go_simp; rfl) ?_
      refine take_S 1 rfl (by kernel_rfl) (by kernel_rfl) hS0 (fun w' hS => by go_simp; rfl) ?_
      refine take_S 2 rfl (by kernel_rfl) (by kernel_rfl) hS0 (fun w' hS => by go_simp; rfl) ?_
      refine take_S 3 rfl (by kernel_rfl) (by kernel_rfl) hS0 (fun w' hS => by have A0 := (HBB.out.below hS).cell; go_simp; rfl) ?_
      refine take_S 4 rfl (by kernel_rfl) (by kernel_rfl) hS0 (fun w' hS => by have A0 := (HX.out.below hS HX.out.lt).c0; have A1 := (HX.out.below hS HX.out.lt).c1; go_simp; rfl) ?_
      refine take_S 5 rfl (by kernel_rfl) (by kernel_rfl) hS0 (fun w' hS => by have A0 := LK.out w' (HBB.out.below hS); go_simp; rfl) ?_
      refine take_S 6 rfl (by kernel_rfl) (by kernel_rfl) hS0 (fun w' hS => by go_simp; rfl) ?_
      refine take_S 7 rfl (by kernel_rfl) (by kernel_rfl) hS0 (fun w' hS => by go_simp; rfl) ?_
      refine take_S 8 rfl (by kernel_rfl) (by kernel_rfl) hS0 (fun w' hS => by go_simp; rfl) ?_
      refine carry_S 9 rfl (by kernel_rfl) (by decide) (by kernel_rfl) (fun K hK => ?_)
      go_simp
      have hS5 : Below w2.heap.size w2 ((w2.alloc (.cells #[.int .u32 0, .int .i64 0, .int .i64 0, .string ⟨#[]⟩] 82)).drew) := ((Below.refl _ w2).alloc (Nat.le_refl _) _).drew
      have hbh : Box4 w2.heap.size (.int .u32 0) (.int .i64 0) (.int .i64 0) (.string ⟨#[]⟩) ((w2.alloc (.cells #[.int .u32 0, .int .i64 0, .int .i64 0, .string ⟨#[]⟩] 82)).drew) := Box4.mk' w2.drew _ _ _ _ _
      refine hK _ _ hS5 ?_
      clear hK K
      try simp only [Act.put, List.getElem_toArray, List.getElem_cons_succ, List.getElem_cons_zero, List.setIfInBounds_toArray, List.set_cons_zero, List.set_cons_succ]
      generalize (w2.alloc (.cells #[.int .u32 0, .int .i64 0, .int .i64 0, .string ⟨#[]⟩] 82)).drew = w6a at *
      have HBH0 := Lib.hid hbh
      obtain ⟨b0, b1, b2, b3, hf⟩ := hbh
      have f0 := hf 0
      have f1 := hf 1
      have f2 := hf 2
      have f3 := hf 3
      refine carry_S 10 rfl (by kernel_rfl) (by decide) (by kernel_rfl) (fun K hK => ?_)
      go_simp
      have hS6 := below_set4 hS5 (Nat.le_refl _) (.int .u32 (hldZ.id.1 : Int)) (.int .i64 hldZ.id.2) (.int .i64 hldZ.uses) (.string (bs hldZ.text))
      refine hK _ _ hS6 (forced_S (by kernel_rfl) ?_)
      clear hK K
      try simp only [Act.put, List.getElem_toArray, List.getElem_cons_succ, List.getElem_cons_zero, List.setIfInBounds_toArray, List.set_cons_zero, List.set_cons_succ]
      simp only [List.drop_succ_cons, List.drop_zero]
      have HBH := Lib.hid (HBH0.out.set (.int .u32 (hldZ.id.1 : Int)) (.int .i64 hldZ.id.2) (.int .i64 hldZ.uses) (.string (bs hldZ.text)))
      generalize ((((w6a.setCell ⟨w2.heap.size, 0, none⟩ (.int .u32 (hldZ.id.1 : Int))).setCell ⟨w2.heap.size, 1, none⟩ (.int .i64 hldZ.id.2)).setCell ⟨w2.heap.size, 2, none⟩ (.int .i64 hldZ.uses)).setCell ⟨w2.heap.size, 3, none⟩ (.string (bs hldZ.text))) = w6 at *
      clear hS5 hS0 HBH0 b0 b1 b2 b3 hf f0 f1 f2 f3
      obtain ⟨h0, h1, h2, h3, _⟩ := HBH.out
      have HB6 := Lib.hid (HB2.out.trans (hS6.mono HB2.out.size))
      have HBB6 := Lib.hid (HBB.out.below hS6)
      have HX6 := Lib.hid (HX.out.below hS6 HX.out.lt)
      have HBR6 := Lib.hid (HBR2.out.below hS6 HBR2.out.lt)
      clear hS6
      go_wp2_with fail
      refine (HRT.out _).mono ?_
      rintro e w7 ⟨rfl, rfl⟩
      obtain ⟨r0, r1, g0, g1⟩ := HBR6.out
      obtain ⟨t0, t1, _⟩ := HBR6.out.rd (.int .u32 0) (.int .i64 0)
      have s0 : w6.cell? ⟨3, 0, none⟩ = some (sval a 1) := (HS.out w6 HB6.out) 1 (by simp)
      unfold sval at s0
      have hne : ¬ (3 = w.heap.size) := by have := hg1; omega
      have HB9 := Lib.hid (below_set2 HB6.out (Nat.le_refl _) (.int .u32 0) (.int .i64 0)).drew
      go_wp2
      go_region
      go_wp2
      refine bodyPost_ret (v := .tuple #[idV (0, 0), .bool false, .iface 361 (.pointer (some (a 1)))]) (by simp [results, Tryz.results22, go_sem, t0, t1]) rfl ?_
      exact put_bad HR.out (ES.sent a 1 (by decide)) (HBIN.out.below HB9.out) HB9.out
  | true =>
    have HRT := Lib.hid (HRTa.out true hr)
    have hr' : ¬ rightB t = false := by rw [hr]; simp
    cases hg : getB L x with
    | some o =>
      have LK := Lib.hid (fun w' (h : OBin b mb L w') => h.look_some HOK.out.idok HIX.out.1 hg)
      have hou := (HOK.out.all o (getB_mem hg).1).uses
      by_cases he : o.text = t
      · have e1 : ((bs o.text).toList == (bs t).toList) = true := by rw [he]; simp
        have e2 : ((bs o.text).toList != (bs t).toList) = false := by rw [he]; simp
        have HR : Hid (putB t L = (setB ⟨x, o.uses + 1, t⟩ L, x, false, 0)) := Lib.hid (by unfold putB; rw [if_neg hr', hx, hg]; simp only; rw [if_neg (not_not_intro he)])
        have HWR : Hid (IntKind.i64.wrap (o.uses + 1) = o.uses + 1) := Lib.hid (IntWalk.i64_in _ (by omega))
        have HHW : Hid (HldW ⟨x, o.uses + 1, t⟩) := Lib.hid ⟨HIX.out.1, by show -9223372036854775808 ≤ o.uses + 1; omega, by show o.uses + 1 ≤ 9223372036854775807; omega⟩
        have u0 := hou.1
        have u1 : o.uses ≤ 4611686018427387904 := by omega
        clear hr hr' hg hx he hou
        go_enter Tryz.func22, Tryz.ntmps22
        go_wp2_with fail
        generalize w.alloc (.cells #[.int .u32 0, .int .i64 0] 47) = w0 at *
        refine (HID.out w0).mono ?_
        rintro e w1 ⟨rfl, hb1⟩
        have hX1 : Box2 w1.heap.size (.int .u32 (x.1 : Int)) (.int .i64 x.2) (w1.alloc (.cells #[.int .u32 (x.1 : Int), .int .i64 x.2] 47)) := Box2.mk' _ _ _ _
        have hb2 := hb1.alloc hb1.size (.cells #[.int .u32 (x.1 : Int), .int .i64 x.2] 47)
        have hlt1 : w.heap.size < w1.heap.size := Nat.lt_of_lt_of_le HBR.out.lt hb1.size
        go_wp2_with fail
        generalize w1.alloc (.cells #[.int .u32 (x.1 : Int), .int .i64 x.2] 47) = w2 at *
        have HX := Lib.hid hX1
        have HBB := Lib.hid (HB0B.out.below hb2)
        have HB2 := Lib.hid (HB0.out.trans (hb2.mono HB0.out.size))
        have HBR2 := Lib.hid (HBR.out.below hb2 HBR.out.lt)
        clear hX1 hb1 hb2
        go_wp2
        have hS0 : Below w2.heap.size w2 w2.drew := (Below.refl _ _).drew
        refine region_S (fun w' => Below w2.heap.size w2 w') 11 (by kernel_rfl) (by kernel_rfl) ?_
        refine take_S 0 rfl (by kernel_rfl) (by kernel_rfl) hS0 (fun w' hS => by go_simp; rfl) ?_
        refine take_S 1 rfl (by kernel_rfl) (by kernel_rfl) hS0 (fun w' hS => by go_simp; rfl) ?_
        refine take_S 2 rfl (by kernel_rfl) (by kernel_rfl) hS0 (fun w' hS => by go_simp; rfl) ?_
        refine take_S 3 rfl (by kernel_rfl) (by kernel_rfl) hS0 (fun w' hS => by have A0 := (HBB.out.below hS).cell; go_simp; rfl) ?_
        refine take_S 4 rfl (by kernel_rfl) (by kernel_rfl) hS0 (fun w' hS => by have A0 := (HX.out.below hS HX.out.lt).c0; have A1 := (HX.out.below hS HX.out.lt).c1; go_simp; rfl) ?_
        refine take_S 5 rfl (by kernel_rfl) (by kernel_rfl) hS0 (fun w' hS => by have A0 := LK.out w' (HBB.out.below hS); go_simp; rfl) ?_
        refine take_S 6 rfl (by kernel_rfl) (by kernel_rfl) hS0 (fun w' hS => by go_simp; rfl) ?_
        refine take_S 7 rfl (by kernel_rfl) (by kernel_rfl) hS0 (fun w' hS => by go_simp; rfl) ?_
        refine take_S 8 rfl (by kernel_rfl) (by kernel_rfl) hS0 (fun w' hS => by go_simp; rfl) ?_
        refine carry_S 9 rfl (by kernel_rfl) (by decide) (by kernel_rfl) (fun K hK => ?_)
        go_simp
        have hS5 : Below w2.heap.size w2 ((w2.alloc (.cells #[.int .u32 0, .int .i64 0, .int .i64 0, .string ⟨#[]⟩] 82)).drew) := ((Below.refl _ w2).alloc (Nat.le_refl _) _).drew
        have hbh : Box4 w2.heap.size (.int .u32 0) (.int .i64 0) (.int .i64 0) (.string ⟨#[]⟩) ((w2.alloc (.cells #[.int .u32 0, .int .i64 0, .int .i64 0, .string ⟨#[]⟩] 82)).drew) := Box4.mk' w2.drew _ _ _ _ _
        refine hK _ _ hS5 ?_
        clear hK K
        try simp only [Act.put, List.getElem_toArray, List.getElem_cons_succ, List.getElem_cons_zero, List.setIfInBounds_toArray, List.set_cons_zero, List.set_cons_succ]
        generalize (w2.alloc (.cells #[.int .u32 0, .int .i64 0, .int .i64 0, .string ⟨#[]⟩] 82)).drew = w6a at *
        have HBH0 := Lib.hid hbh
        obtain ⟨b0, b1, b2, b3, hf⟩ := hbh
        have f0 := hf 0
        have f1 := hf 1
        have f2 := hf 2
        have f3 := hf 3
        refine carry_S 10 rfl (by kernel_rfl) (by decide) (by kernel_rfl) (fun K hK => ?_)
        go_simp
        have hS6 := below_set4 hS5 (Nat.le_refl _) (.int .u32 (o.id.1 : Int)) (.int .i64 o.id.2) (.int .i64 o.uses) (.string (bs o.text))
        refine hK _ _ hS6 (forced_S (by kernel_rfl) ?_)
        clear hK K
        try simp only [Act.put, List.getElem_toArray, List.getElem_cons_succ, List.getElem_cons_zero, List.setIfInBounds_toArray, List.set_cons_zero, List.set_cons_succ]
        simp only [List.drop_succ_cons, List.drop_zero]
        have HBH := Lib.hid (HBH0.out.set (.int .u32 (o.id.1 : Int)) (.int .i64 o.id.2) (.int .i64 o.uses) (.string (bs o.text)))
        generalize ((((w6a.setCell ⟨w2.heap.size, 0, none⟩ (.int .u32 (o.id.1 : Int))).setCell ⟨w2.heap.size, 1, none⟩ (.int .i64 o.id.2)).setCell ⟨w2.heap.size, 2, none⟩ (.int .i64 o.uses)).setCell ⟨w2.heap.size, 3, none⟩ (.string (bs o.text))) = w6 at *
        clear hS5 hS0 HBH0 b0 b1 b2 b3 hf f0 f1 f2 f3
        obtain ⟨h0, h1, h2, h3, _⟩ := HBH.out
        have HB6 := Lib.hid (HB2.out.trans (hS6.mono HB2.out.size))
        have HBB6 := Lib.hid (HBB.out.below hS6)
        have HX6 := Lib.hid (HX.out.below hS6 HX.out.lt)
        have HBR6 := Lib.hid (HBR2.out.below hS6 HBR2.out.lt)
        clear hS6
        go_wp2_with fail
        refine (HRT.out _).mono ?_
        rintro e w7 ⟨rfl, rfl⟩
        go_wp2
        have hS0 : Below w6.heap.size w6 w6.drew := (Below.refl _ _).drew
        refine region_S (fun w' => Below w6.heap.size w6 w') 11 (by kernel_rfl) (by kernel_rfl) ?_
        refine take_S 0 rfl (by kernel_rfl) (by kernel_rfl) hS0 (fun w' hS => by go_simp; rfl) ?_
        refine take_S 1 rfl (by kernel_rfl) (by kernel_rfl) hS0 (fun w' hS => by go_simp; rfl) ?_
        refine take_S 2 rfl (by kernel_rfl) (by kernel_rfl) hS0 (fun w' hS => by go_simp; rfl) ?_
        refine take_S 3 rfl (by kernel_rfl) (by kernel_rfl) hS0 (fun w' hS => by have A0 := (HBB6.out.below hS).cell; go_simp; rfl) ?_
        refine take_S 4 rfl (by kernel_rfl) (by kernel_rfl) hS0 (fun w' hS => by have A0 := (HX6.out.below hS HX6.out.lt).c0; have A1 := (HX6.out.below hS HX6.out.lt).c1; go_simp; rfl) ?_
        refine take_S 5 rfl (by kernel_rfl) (by kernel_rfl) hS0 (fun w' hS => by have A0 := (HX6.out.below hS HX6.out.lt).c0; have A1 := (HX6.out.below hS HX6.out.lt).c1; go_simp; rfl) ?_
        refine take_S 6 rfl (by kernel_rfl) (by kernel_rfl) hS0 (fun w' hS => by go_simp; rfl) ?_
        refine take_S 7 rfl (by kernel_rfl) (by kernel_rfl) hS0 (fun w' hS => by have A2 := (HBH.out.below hS HBH.out.lt).c2; go_simp; rfl) ?_
        refine take_S 8 (v := .int .i64 (o.uses + 1)) rfl (by kernel_rfl) (by kernel_rfl) hS0 (fun w' hS => by have W1 := HWR.out; go_simp) ?_
        refine take_S 9 rfl (by kernel_rfl) (by kernel_rfl) hS0 (fun w' hS => by go_simp; rfl) ?_
        refine take_S 10 rfl (by kernel_rfl) (by kernel_rfl) hS0 (fun w' hS => by go_simp; rfl) (forced_S (by kernel_rfl) ?_)
        try simp only [Act.put, List.getElem_toArray, List.getElem_cons_succ, List.getElem_cons_zero, List.setIfInBounds_toArray, List.set_cons_zero, List.set_cons_succ]
        simp only [List.drop_succ_cons, List.drop_zero]
        have HT := Lib.hid (HBB6.out.drew)
        go_wp2_with (first | (at_mapUpdate; refine wpList_mapUpdate_in _ rfl _ _ _ 117 rfl 47 82 lawI Tryz.underlying117 hldElem mb L.length (dataB L) rfl HT.out.map HLEN.out (idV x) (hldV ⟨x, o.uses + 1, t⟩) _ rfl rfl HKEY.out (hldU ⟨x, o.uses + 1, t⟩) [] (hldElem_mk HHW.out) ?_; intro w8 hown8 hturn8; have hg8 := hturn8.grown; have HG8 := Lib.hid hg8; have HOWN8 := Lib.hid hown8; have HX8 := Lib.hid (gb_box2 hg8 (by omega) (Box2.drewN HX6.out 1)); have HBR8 := Lib.hid (gb_box2 hg8 (by omega) (Box2.drewN HBR6.out 1)); clear hown8 hturn8 hg8; obtain ⟨x0, x1, _, _⟩ := HX8.out; obtain ⟨r0, r1, g0, g1⟩ := HBR8.out) | fail)
        obtain ⟨t0, t1, _⟩ := HBR8.out.rd (.int .u32 (x.1 : Int)) (.int .i64 x.2)
        have HG9 := Lib.hid (gb_setNew (gb_setNew ((gb_of_below HB6.out.drew).trans HG8.out) (Nat.le_refl _) 0 (.int .u32 (x.1 : Int))) (Nat.le_refl _) 1 (.int .i64 x.2))
        have HB9 := Lib.hid (((HT.out.put HOK.out.srt HOK.out.idok0 ⟨x, o.uses + 1, t⟩ HIX.out HOWN8.out HG8.out).set (Nat.ne_of_lt hbl) (Nat.ne_of_lt hml) 0 (.int .u32 (x.1 : Int))).set (Nat.ne_of_lt hbl) (Nat.ne_of_lt hml) 1 (.int .i64 x.2))
        refine bodyPost_ret (v := .tuple #[idV x, .bool false, .nilIface]) (by simp [results, Tryz.results22, go_sem, t0, t1]) rfl ?_
        exact put_ok HR.out (ES.none a) HB9.out HG9.out
      · have e1 : ((bs o.text).toList == (bs t).toList) = false := by
          rw [ByteArray.toList_eq, ByteArray.toList_eq, bs_toList, bs_toList, beq_eq_false_iff_ne]; exact he
        have e2 : ((bs o.text).toList != (bs t).toList) = true := by rw [bne, e1]; rfl
        have HR : Hid (putB t L = (L, (0, 0), false, 10)) := Lib.hid (by unfold putB; rw [if_neg hr', hx, hg]; simp only; rw [if_pos he])
        clear hr hr' hg hx he hou
        go_enter Tryz.func22, Tryz.ntmps22
        go_wp2_with fail
        generalize w.alloc (.cells #[.int .u32 0, .int .i64 0] 47) = w0 at *
        refine (HID.out w0).mono ?_
        rintro e w1 ⟨rfl, hb1⟩
        have hX1 : Box2 w1.heap.size (.int .u32 (x.1 : Int)) (.int .i64 x.2) (w1.alloc (.cells #[.int .u32 (x.1 : Int), .int .i64 x.2] 47)) := Box2.mk' _ _ _ _
        have hb2 := hb1.alloc hb1.size (.cells #[.int .u32 (x.1 : Int), .int .i64 x.2] 47)
        have hlt1 : w.heap.size < w1.heap.size := Nat.lt_of_lt_of_le HBR.out.lt hb1.size
        go_wp2_with fail
        generalize w1.alloc (.cells #[.int .u32 (x.1 : Int), .int .i64 x.2] 47) = w2 at *
        have HX := Lib.hid hX1
        have HBB := Lib.hid (HB0B.out.below hb2)
        have HB2 := Lib.hid (HB0.out.trans (hb2.mono HB0.out.size))
        have HBR2 := Lib.hid (HBR.out.below hb2 HBR.out.lt)
        clear hX1 hb1 hb2
        go_wp2
        have hS0 : Below w2.heap.size w2 w2.drew := (Below.refl _ _).drew
        refine region_S (fun w' => Below w2.heap.size w2 w') 11 (by kernel_rfl) (by kernel_rfl) ?_
        refine take_S 0 rfl (by kernel_rfl) (by kernel_rfl) hS0 (fun w' hS => by go_simp; rfl) ?_
        refine take_S 1 rfl (by kernel_rfl) (by kernel_rfl) hS0 (fun w' hS => by go_simp; rfl) ?_
        refine take_S 2 rfl (by kernel_rfl) (by kernel_rfl) hS0 (fun w' hS => by go_simp; rfl) ?_
        refine take_S 3 rfl (by kernel_rfl) (by kernel_rfl) hS0 (fun w' hS => by have A0 := (HBB.out.below hS).cell; go_simp; rfl) ?_
        refine take_S 4 rfl (by kernel_rfl) (by kernel_rfl) hS0 (fun w' hS => by have A0 := (HX.out.below hS HX.out.lt).c0; have A1 := (HX.out.below hS HX.out.lt).c1; go_simp; rfl) ?_
        refine take_S 5 rfl (by kernel_rfl) (by kernel_rfl) hS0 (fun w' hS => by have A0 := LK.out w' (HBB.out.below hS); go_simp; rfl) ?_
        refine take_S 6 rfl (by kernel_rfl) (by kernel_rfl) hS0 (fun w' hS => by go_simp; rfl) ?_
        refine take_S 7 rfl (by kernel_rfl) (by kernel_rfl) hS0 (fun w' hS => by go_simp; rfl) ?_
        refine take_S 8 rfl (by kernel_rfl) (by kernel_rfl) hS0 (fun w' hS => by go_simp; rfl) ?_
        refine carry_S 9 rfl (by kernel_rfl) (by decide) (by kernel_rfl) (fun K hK => ?_)
        go_simp
        have hS5 : Below w2.heap.size w2 ((w2.alloc (.cells #[.int .u32 0, .int .i64 0, .int .i64 0, .string ⟨#[]⟩] 82)).drew) := ((Below.refl _ w2).alloc (Nat.le_refl _) _).drew
        have hbh : Box4 w2.heap.size (.int .u32 0) (.int .i64 0) (.int .i64 0) (.string ⟨#[]⟩) ((w2.alloc (.cells #[.int .u32 0, .int .i64 0, .int .i64 0, .string ⟨#[]⟩] 82)).drew) := Box4.mk' w2.drew _ _ _ _ _
        refine hK _ _ hS5 ?_
        clear hK K
        try simp only [Act.put, List.getElem_toArray, List.getElem_cons_succ, List.getElem_cons_zero, List.setIfInBounds_toArray, List.set_cons_zero, List.set_cons_succ]
        generalize (w2.alloc (.cells #[.int .u32 0, .int .i64 0, .int .i64 0, .string ⟨#[]⟩] 82)).drew = w6a at *
        have HBH0 := Lib.hid hbh
        obtain ⟨b0, b1, b2, b3, hf⟩ := hbh
        have f0 := hf 0
        have f1 := hf 1
        have f2 := hf 2
        have f3 := hf 3
        refine carry_S 10 rfl (by kernel_rfl) (by decide) (by kernel_rfl) (fun K hK => ?_)
        go_simp
        have hS6 := below_set4 hS5 (Nat.le_refl _) (.int .u32 (o.id.1 : Int)) (.int .i64 o.id.2) (.int .i64 o.uses) (.string (bs o.text))
        refine hK _ _ hS6 (forced_S (by kernel_rfl) ?_)
        clear hK K
        try simp only [Act.put, List.getElem_toArray, List.getElem_cons_succ, List.getElem_cons_zero, List.setIfInBounds_toArray, List.set_cons_zero, List.set_cons_succ]
        simp only [List.drop_succ_cons, List.drop_zero]
        have HBH := Lib.hid (HBH0.out.set (.int .u32 (o.id.1 : Int)) (.int .i64 o.id.2) (.int .i64 o.uses) (.string (bs o.text)))
        generalize ((((w6a.setCell ⟨w2.heap.size, 0, none⟩ (.int .u32 (o.id.1 : Int))).setCell ⟨w2.heap.size, 1, none⟩ (.int .i64 o.id.2)).setCell ⟨w2.heap.size, 2, none⟩ (.int .i64 o.uses)).setCell ⟨w2.heap.size, 3, none⟩ (.string (bs o.text))) = w6 at *
        clear hS5 hS0 HBH0 b0 b1 b2 b3 hf f0 f1 f2 f3
        obtain ⟨h0, h1, h2, h3, _⟩ := HBH.out
        have HB6 := Lib.hid (HB2.out.trans (hS6.mono HB2.out.size))
        have HBB6 := Lib.hid (HBB.out.below hS6)
        have HX6 := Lib.hid (HX.out.below hS6 HX.out.lt)
        have HBR6 := Lib.hid (HBR2.out.below hS6 HBR2.out.lt)
        clear hS6
        go_wp2_with fail
        refine (HRT.out _).mono ?_
        rintro e w7 ⟨rfl, rfl⟩
        obtain ⟨r0, r1, g0, g1⟩ := HBR6.out
        obtain ⟨t0, t1, _⟩ := HBR6.out.rd (.int .u32 0) (.int .i64 0)
        have s0 : w6.cell? ⟨4, 0, none⟩ = some (sval a 9) := (HS.out w6 HB6.out) 9 (by simp)
        unfold sval at s0
        have hne : ¬ (4 = w.heap.size) := by have := hg9; omega
        have HB9 := Lib.hid (below_set2 HB6.out (Nat.le_refl _) (.int .u32 0) (.int .i64 0)).drew
        go_wp2
        go_region
        go_wp2
        refine bodyPost_ret (v := .tuple #[idV (0, 0), .bool false, .iface 361 (.pointer (some (a 9)))]) (by simp [results, Tryz.results22, go_sem, t0, t1]) rfl ?_
        exact put_bad HR.out (ES.sent a 9 (by decide)) (HBIN.out.below HB9.out) HB9.out
    | none =>
      have LK := Lib.hid (fun w' (h : OBin b mb L w') => h.look_none HOK.out.idok HIX.out.1 hg)
      have HLN := Lib.hid (fun w' (h : OBin b mb L w') => h.len)
      by_cases hf : 250 ≤ L.length
      · have hfi : (L.length : Int) ≥ 250 := by omega
        have HR : Hid (putB t L = (L, (0, 0), false, 7)) := Lib.hid (by unfold putB; rw [if_neg hr', hx, hg]; exact if_pos hf)
        clear hr hr' hg hx hf
        go_enter Tryz.func22, Tryz.ntmps22
        go_wp2_with fail
        generalize w.alloc (.cells #[.int .u32 0, .int .i64 0] 47) = w0 at *
        refine (HID.out w0).mono ?_
        rintro e w1 ⟨rfl, hb1⟩
        have hX1 : Box2 w1.heap.size (.int .u32 (x.1 : Int)) (.int .i64 x.2) (w1.alloc (.cells #[.int .u32 (x.1 : Int), .int .i64 x.2] 47)) := Box2.mk' _ _ _ _
        have hb2 := hb1.alloc hb1.size (.cells #[.int .u32 (x.1 : Int), .int .i64 x.2] 47)
        have hlt1 : w.heap.size < w1.heap.size := Nat.lt_of_lt_of_le HBR.out.lt hb1.size
        go_wp2_with fail
        generalize w1.alloc (.cells #[.int .u32 (x.1 : Int), .int .i64 x.2] 47) = w2 at *
        have HX := Lib.hid hX1
        have HBB := Lib.hid (HB0B.out.below hb2)
        have HB2 := Lib.hid (HB0.out.trans (hb2.mono HB0.out.size))
        have HBR2 := Lib.hid (HBR.out.below hb2 HBR.out.lt)
        clear hX1 hb1 hb2
        go_wp2
        have hS0 : Below w2.heap.size w2 w2.drew := (Below.refl _ _).drew
        refine region_S (fun w' => Below w2.heap.size w2 w') 11 (by kernel_rfl) (by kernel_rfl) ?_
        refine take_S 0 rfl (by kernel_rfl) (by kernel_rfl) hS0 (fun w' hS => by go_simp; rfl) ?_
        refine take_S 1 rfl (by kernel_rfl) (by kernel_rfl) hS0 (fun w' hS => by go_simp; rfl) ?_
        refine take_S 2 rfl (by kernel_rfl) (by kernel_rfl) hS0 (fun w' hS => by go_simp; rfl) ?_
        refine take_S 3 rfl (by kernel_rfl) (by kernel_rfl) hS0 (fun w' hS => by have A0 := (HBB.out.below hS).cell; go_simp; rfl) ?_
        refine take_S 4 rfl (by kernel_rfl) (by kernel_rfl) hS0 (fun w' hS => by have A0 := (HX.out.below hS HX.out.lt).c0; have A1 := (HX.out.below hS HX.out.lt).c1; go_simp; rfl) ?_
        refine take_S 5 rfl (by kernel_rfl) (by kernel_rfl) hS0 (fun w' hS => by have A0 := LK.out w' (HBB.out.below hS); go_simp; rfl) ?_
        refine take_S 6 rfl (by kernel_rfl) (by kernel_rfl) hS0 (fun w' hS => by go_simp; rfl) ?_
        refine take_S 7 rfl (by kernel_rfl) (by kernel_rfl) hS0 (fun w' hS => by go_simp; rfl) ?_
        refine take_S 8 rfl (by kernel_rfl) (by kernel_rfl) hS0 (fun w' hS => by go_simp; rfl) ?_
        refine carry_S 9 rfl (by kernel_rfl) (by decide) (by kernel_rfl) (fun K hK => ?_)
        go_simp
        have hS5 : Below w2.heap.size w2 ((w2.alloc (.cells #[.int .u32 0, .int .i64 0, .int .i64 0, .string ⟨#[]⟩] 82)).drew) := ((Below.refl _ w2).alloc (Nat.le_refl _) _).drew
        have hbh : Box4 w2.heap.size (.int .u32 0) (.int .i64 0) (.int .i64 0) (.string ⟨#[]⟩) ((w2.alloc (.cells #[.int .u32 0, .int .i64 0, .int .i64 0, .string ⟨#[]⟩] 82)).drew) := Box4.mk' w2.drew _ _ _ _ _
        refine hK _ _ hS5 ?_
        clear hK K
        try simp only [Act.put, List.getElem_toArray, List.getElem_cons_succ, List.getElem_cons_zero, List.setIfInBounds_toArray, List.set_cons_zero, List.set_cons_succ]
        generalize (w2.alloc (.cells #[.int .u32 0, .int .i64 0, .int .i64 0, .string ⟨#[]⟩] 82)).drew = w6a at *
        have HBH0 := Lib.hid hbh
        obtain ⟨b0, b1, b2, b3, hf⟩ := hbh
        have f0 := hf 0
        have f1 := hf 1
        have f2 := hf 2
        have f3 := hf 3
        refine carry_S 10 rfl (by kernel_rfl) (by decide) (by kernel_rfl) (fun K hK => ?_)
        go_simp
        have hS6 := below_set4 hS5 (Nat.le_refl _) (.int .u32 (hldZ.id.1 : Int)) (.int .i64 hldZ.id.2) (.int .i64 hldZ.uses) (.string (bs hldZ.text))
        refine hK _ _ hS6 (forced_S (by kernel_rfl) ?_)
        clear hK K
        try simp only [Act.put, List.getElem_toArray, List.getElem_cons_succ, List.getElem_cons_zero, List.setIfInBounds_toArray, List.set_cons_zero, List.set_cons_succ]
        simp only [List.drop_succ_cons, List.drop_zero]
        have HBH := Lib.hid (HBH0.out.set (.int .u32 (hldZ.id.1 : Int)) (.int .i64 hldZ.id.2) (.int .i64 hldZ.uses) (.string (bs hldZ.text)))
        generalize ((((w6a.setCell ⟨w2.heap.size, 0, none⟩ (.int .u32 (hldZ.id.1 : Int))).setCell ⟨w2.heap.size, 1, none⟩ (.int .i64 hldZ.id.2)).setCell ⟨w2.heap.size, 2, none⟩ (.int .i64 hldZ.uses)).setCell ⟨w2.heap.size, 3, none⟩ (.string (bs hldZ.text))) = w6 at *
        clear hS5 hS0 HBH0 b0 b1 b2 b3 hf f0 f1 f2 f3
        obtain ⟨h0, h1, h2, h3, _⟩ := HBH.out
        have HB6 := Lib.hid (HB2.out.trans (hS6.mono HB2.out.size))
        have HBB6 := Lib.hid (HBB.out.below hS6)
        have HX6 := Lib.hid (HX.out.below hS6 HX.out.lt)
        have HBR6 := Lib.hid (HBR2.out.below hS6 HBR2.out.lt)
        clear hS6
        go_wp2_with fail
        refine (HRT.out _).mono ?_
        rintro e w7 ⟨rfl, rfl⟩
        have hln := HLN.out w6 HBB6.out
        have m0 := HBB6.out.cell
        obtain ⟨r0, r1, g0, g1⟩ := HBR6.out
        obtain ⟨t0, t1, _⟩ := HBR6.out.rd (.int .u32 0) (.int .i64 0)
        have s0 : w6.cell? ⟨1, 0, none⟩ = some (sval a 6) := (HS.out w6 HB6.out) 6 (by simp)
        unfold sval at s0
        have hne : ¬ (1 = w.heap.size) := by have := hg6; omega
        have HB9 := Lib.hid (below_set2 HB6.out (Nat.le_refl _) (.int .u32 0) (.int .i64 0)).drew
        go_wp2
        go_region
        go_wp2
        refine bodyPost_ret (v := .tuple #[idV (0, 0), .bool false, .iface 361 (.pointer (some (a 6)))]) (by simp [results, Tryz.results22, go_sem, t0, t1]) rfl ?_
        exact put_bad HR.out (ES.sent a 6 (by decide)) (HBIN.out.below HB9.out) HB9.out
      · have hfi : ¬ (L.length : Int) ≥ 250 := by omega
        have HR : Hid (putB t L = (setB ⟨x, hldZ.uses + 1, t⟩ L, x, true, 0)) := Lib.hid (by unfold putB; rw [if_neg hr', hx, hg]; exact if_neg hf)
        have HWR : Hid (IntKind.i64.wrap (hldZ.uses + 1) = hldZ.uses + 1) := Lib.hid (by decide)
        have HHW : Hid (HldW ⟨x, hldZ.uses + 1, t⟩) := Lib.hid ⟨HIX.out.1, by show -9223372036854775808 ≤ hldZ.uses + 1; decide, by show hldZ.uses + 1 ≤ 9223372036854775807; decide⟩
        clear hr hr' hg hx hf
        go_enter Tryz.func22, Tryz.ntmps22
        go_wp2_with fail
        generalize w.alloc (.cells #[.int .u32 0, .int .i64 0] 47) = w0 at *
        refine (HID.out w0).mono ?_
        rintro e w1 ⟨rfl, hb1⟩
        have hX1 : Box2 w1.heap.size (.int .u32 (x.1 : Int)) (.int .i64 x.2) (w1.alloc (.cells #[.int .u32 (x.1 : Int), .int .i64 x.2] 47)) := Box2.mk' _ _ _ _
        have hb2 := hb1.alloc hb1.size (.cells #[.int .u32 (x.1 : Int), .int .i64 x.2] 47)
        have hlt1 : w.heap.size < w1.heap.size := Nat.lt_of_lt_of_le HBR.out.lt hb1.size
        go_wp2_with fail
        generalize w1.alloc (.cells #[.int .u32 (x.1 : Int), .int .i64 x.2] 47) = w2 at *
        have HX := Lib.hid hX1
        have HBB := Lib.hid (HB0B.out.below hb2)
        have HB2 := Lib.hid (HB0.out.trans (hb2.mono HB0.out.size))
        have HBR2 := Lib.hid (HBR.out.below hb2 HBR.out.lt)
        clear hX1 hb1 hb2
        go_wp2
        have hS0 : Below w2.heap.size w2 w2.drew := (Below.refl _ _).drew
        refine region_S (fun w' => Below w2.heap.size w2 w') 11 (by kernel_rfl) (by kernel_rfl) ?_
        refine take_S 0 rfl (by kernel_rfl) (by kernel_rfl) hS0 (fun w' hS => by go_simp; rfl) ?_
        refine take_S 1 rfl (by kernel_rfl) (by kernel_rfl) hS0 (fun w' hS => by go_simp; rfl) ?_
        refine take_S 2 rfl (by kernel_rfl) (by kernel_rfl) hS0 (fun w' hS => by go_simp; rfl) ?_
        refine take_S 3 rfl (by kernel_rfl) (by kernel_rfl) hS0 (fun w' hS => by have A0 := (HBB.out.below hS).cell; go_simp; rfl) ?_
        refine take_S 4 rfl (by kernel_rfl) (by kernel_rfl) hS0 (fun w' hS => by have A0 := (HX.out.below hS HX.out.lt).c0; have A1 := (HX.out.below hS HX.out.lt).c1; go_simp; rfl) ?_
        refine take_S 5 rfl (by kernel_rfl) (by kernel_rfl) hS0 (fun w' hS => by have A0 := LK.out w' (HBB.out.below hS); go_simp; rfl) ?_
        refine take_S 6 rfl (by kernel_rfl) (by kernel_rfl) hS0 (fun w' hS => by go_simp; rfl) ?_
        refine take_S 7 rfl (by kernel_rfl) (by kernel_rfl) hS0 (fun w' hS => by go_simp; rfl) ?_
        refine take_S 8 rfl (by kernel_rfl) (by kernel_rfl) hS0 (fun w' hS => by go_simp; rfl) ?_
        refine carry_S 9 rfl (by kernel_rfl) (by decide) (by kernel_rfl) (fun K hK => ?_)
        go_simp
        have hS5 : Below w2.heap.size w2 ((w2.alloc (.cells #[.int .u32 0, .int .i64 0, .int .i64 0, .string ⟨#[]⟩] 82)).drew) := ((Below.refl _ w2).alloc (Nat.le_refl _) _).drew
        have hbh : Box4 w2.heap.size (.int .u32 0) (.int .i64 0) (.int .i64 0) (.string ⟨#[]⟩) ((w2.alloc (.cells #[.int .u32 0, .int .i64 0, .int .i64 0, .string ⟨#[]⟩] 82)).drew) := Box4.mk' w2.drew _ _ _ _ _
        refine hK _ _ hS5 ?_
        clear hK K
        try simp only [Act.put, List.getElem_toArray, List.getElem_cons_succ, List.getElem_cons_zero, List.setIfInBounds_toArray, List.set_cons_zero, List.set_cons_succ]
        generalize (w2.alloc (.cells #[.int .u32 0, .int .i64 0, .int .i64 0, .string ⟨#[]⟩] 82)).drew = w6a at *
        have HBH0 := Lib.hid hbh
        obtain ⟨b0, b1, b2, b3, hf⟩ := hbh
        have f0 := hf 0
        have f1 := hf 1
        have f2 := hf 2
        have f3 := hf 3
        refine carry_S 10 rfl (by kernel_rfl) (by decide) (by kernel_rfl) (fun K hK => ?_)
        go_simp
        have hS6 := below_set4 hS5 (Nat.le_refl _) (.int .u32 (hldZ.id.1 : Int)) (.int .i64 hldZ.id.2) (.int .i64 hldZ.uses) (.string (bs hldZ.text))
        refine hK _ _ hS6 (forced_S (by kernel_rfl) ?_)
        clear hK K
        try simp only [Act.put, List.getElem_toArray, List.getElem_cons_succ, List.getElem_cons_zero, List.setIfInBounds_toArray, List.set_cons_zero, List.set_cons_succ]
        simp only [List.drop_succ_cons, List.drop_zero]
        have HBH := Lib.hid (HBH0.out.set (.int .u32 (hldZ.id.1 : Int)) (.int .i64 hldZ.id.2) (.int .i64 hldZ.uses) (.string (bs hldZ.text)))
        generalize ((((w6a.setCell ⟨w2.heap.size, 0, none⟩ (.int .u32 (hldZ.id.1 : Int))).setCell ⟨w2.heap.size, 1, none⟩ (.int .i64 hldZ.id.2)).setCell ⟨w2.heap.size, 2, none⟩ (.int .i64 hldZ.uses)).setCell ⟨w2.heap.size, 3, none⟩ (.string (bs hldZ.text))) = w6 at *
        clear hS5 hS0 HBH0 b0 b1 b2 b3 hf f0 f1 f2 f3
        obtain ⟨h0, h1, h2, h3, _⟩ := HBH.out
        have HB6 := Lib.hid (HB2.out.trans (hS6.mono HB2.out.size))
        have HBB6 := Lib.hid (HBB.out.below hS6)
        have HX6 := Lib.hid (HX.out.below hS6 HX.out.lt)
        have HBR6 := Lib.hid (HBR2.out.below hS6 HBR2.out.lt)
        clear hS6
        go_wp2_with fail
        refine (HRT.out _).mono ?_
        rintro e w7 ⟨rfl, rfl⟩
        have hln := HLN.out w6 HBB6.out
        have m0 := HBB6.out.cell
        go_wp2
        have hS0 : Below w6.heap.size w6 w6.drew := (Below.refl _ _).drew
        refine region_S (fun w' => Below w6.heap.size w6 w') 11 (by kernel_rfl) (by kernel_rfl) ?_
        refine take_S 0 rfl (by kernel_rfl) (by kernel_rfl) hS0 (fun w' hS => by go_simp; rfl) ?_
        refine take_S 1 rfl (by kernel_rfl) (by kernel_rfl) hS0 (fun w' hS => by go_simp; rfl) ?_
        refine take_S 2 rfl (by kernel_rfl) (by kernel_rfl) hS0 (fun w' hS => by go_simp; rfl) ?_
        refine take_S 3 rfl (by kernel_rfl) (by kernel_rfl) hS0 (fun w' hS => by have A0 := (HBB6.out.below hS).cell; go_simp; rfl) ?_
        refine take_S 4 rfl (by kernel_rfl) (by kernel_rfl) hS0 (fun w' hS => by have A0 := (HX6.out.below hS HX6.out.lt).c0; have A1 := (HX6.out.below hS HX6.out.lt).c1; go_simp; rfl) ?_
        refine take_S 5 rfl (by kernel_rfl) (by kernel_rfl) hS0 (fun w' hS => by have A0 := (HX6.out.below hS HX6.out.lt).c0; have A1 := (HX6.out.below hS HX6.out.lt).c1; go_simp; rfl) ?_
        refine take_S 6 rfl (by kernel_rfl) (by kernel_rfl) hS0 (fun w' hS => by go_simp; rfl) ?_
        refine take_S 7 rfl (by kernel_rfl) (by kernel_rfl) hS0 (fun w' hS => by have A2 := (HBH.out.below hS HBH.out.lt).c2; go_simp; rfl) ?_
        refine take_S 8 (v := .int .i64 (hldZ.uses + 1)) rfl (by kernel_rfl) (by kernel_rfl) hS0 (fun w' hS => by have W1 := HWR.out; go_simp) ?_
        refine take_S 9 rfl (by kernel_rfl) (by kernel_rfl) hS0 (fun w' hS => by go_simp; rfl) ?_
        refine take_S 10 rfl (by kernel_rfl) (by kernel_rfl) hS0 (fun w' hS => by go_simp; rfl) (forced_S (by kernel_rfl) ?_)
        try simp only [Act.put, List.getElem_toArray, List.getElem_cons_succ, List.getElem_cons_zero, List.setIfInBounds_toArray, List.set_cons_zero, List.set_cons_succ]
        simp only [List.drop_succ_cons, List.drop_zero]
        have HT := Lib.hid (HBB6.out.drew)
        go_wp2_with (first | (at_mapUpdate; refine wpList_mapUpdate_in _ rfl _ _ _ 117 rfl 47 82 lawI Tryz.underlying117 hldElem mb L.length (dataB L) rfl HT.out.map HLEN.out (idV x) (hldV ⟨x, hldZ.uses + 1, t⟩) _ rfl rfl HKEY.out (hldU ⟨x, hldZ.uses + 1, t⟩) [] (hldElem_mk HHW.out) ?_; intro w8 hown8 hturn8; have hg8 := hturn8.grown; have HG8 := Lib.hid hg8; have HOWN8 := Lib.hid hown8; have HX8 := Lib.hid (gb_box2 hg8 (by omega) (Box2.drewN HX6.out 1)); have HBR8 := Lib.hid (gb_box2 hg8 (by omega) (Box2.drewN HBR6.out 1)); clear hown8 hturn8 hg8; obtain ⟨x0, x1, _, _⟩ := HX8.out; obtain ⟨r0, r1, g0, g1⟩ := HBR8.out) | fail)
        obtain ⟨t0, t1, _⟩ := HBR8.out.rd (.int .u32 (x.1 : Int)) (.int .i64 x.2)
        have HG9 := Lib.hid (gb_setNew (gb_setNew ((gb_of_below HB6.out.drew).trans HG8.out) (Nat.le_refl _) 0 (.int .u32 (x.1 : Int))) (Nat.le_refl _) 1 (.int .i64 x.2))
        have HB9 := Lib.hid (((HT.out.put HOK.out.srt HOK.out.idok0 ⟨x, hldZ.uses + 1, t⟩ HIX.out HOWN8.out HG8.out).set (Nat.ne_of_lt hbl) (Nat.ne_of_lt hml) 0 (.int .u32 (x.1 : Int))).set (Nat.ne_of_lt hbl) (Nat.ne_of_lt hml) 1 (.int .i64 x.2))
        refine bodyPost_ret (v := .tuple #[idV x, .bool true, .nilIface]) (by simp [results, Tryz.results22, go_sem, t0, t1]) rfl ?_
        exact put_ok HR.out (ES.none a) HB9.out HG9.out
end Go.Proofs.YtpanoplcamdnkaaGreatDoor
/- bins in memory: walk of Drop. Condition: the sentinels that are read lie as named (SomeS). -/
namespace Go.Proofs.YtpanoplcamdnkaaGreatDoor
open Go.RowKit Go.Lib Go.Maps Go.WideMaps

theorem Box4.set2' {b : Nat} {x y z u : Value} {w : World} (h : Box4 b x y z u w) (v : Value) : Box4 b x y v u (w.setCell ⟨b, 2, none⟩ v) :=
  ⟨by rw [cell_setI (by decide)]; exact h.c0, by rw [cell_setI (by decide)]; exact h.c1, World.cell?_setCell_same _ _ _ h.c2, by rw [cell_setI (by decide)]; exact h.c3, fun j => by rw [World.frozen?_setCell]; exact h.f j⟩
def DropPost (a : Nat → Addr) (b mb : Nat) (L : HldL) (x : Idn) (w : World) (e : Ending) (w' : World) : Prop :=
  ∃ r, e = .returned r ∧ ES a r (dropB x L).2 ∧ OBin b mb (dropB x L).1 w' ∧ w.grownBy w' (some mb)
theorem drop_bad {a : Nat → Addr} {b mb : Nat} {L : HldL} {x : Idn} {w w' : World} {c : Int} {r : Value} (h : dropB x L = (L, c)) (hr : ES a r c) (hB : OBin b mb L w') (hb : Below w.heap.size w w') :
    DropPost a b mb L x w (.returned r) w' := ⟨r, rfl, by rw [h]; exact hr, by rw [h]; exact hB, gb_of_below hb⟩
set_option maxRecDepth 100000 in
set_option maxHeartbeats 2000000 in
theorem BnDrop_any (a : Nat → Addr) (b mb : Nat) (L : HldL) (n : Int) (hn : n ≤ 4611686018427387904) (hL : BinOk n L) (hl : L.length ≤ 1000000) (x : Idn) (hx : IdOk x) (w : World) (hB : OBin b mb L w) (hs : SomeS [4, 10] a w) :
    Calls Tryz.prog 29 #[.pointer (some ⟨b, 0, none⟩), idV x] w (DropPost a b mb L x w) := by
  have hb0 : Below w.heap.size w (w.alloc (.cells #[.int .u32 (x.1 : Int), .int .i64 x.2] 47)) := (Below.refl _ w).alloc (Nat.le_refl _) _
  have HB0 := Lib.hid hb0
  have HBIN := Lib.hid hB
  have HBB := Lib.hid (hB.below hb0)
  have HX := Lib.hid (Box2.mk' w (.int .u32 (x.1 : Int)) (.int .i64 x.2) 47)
  have HS : Hid (∀ w', Below w.heap.size w w' → SomeS [4, 10] a w') := Lib.hid (fun w' h => hs.below h)
  have hbl := hB.lt
  have hml := hB.map.lt
  have HLEN : Hid (L.length < maxLen) := Lib.hid (by unfold maxLen; omega)
  have HOK := Lib.hid hL
  have HIX := Lib.hid hx
  have HKEY := Lib.hid (keyI hx)
  clear hb0 hs hB hL hx
  cases hg : getB L x with
  | some o =>
    have LK := Lib.hid (fun w' (h : OBin b mb L w') => h.look_some HOK.out.idok HIX.out hg)
    have hou := (HOK.out.all o (getB_mem hg).1).uses
    have HOX := Lib.hid (getB_mem hg).2
    have HIO := Lib.hid (HOK.out.idok0 o (getB_mem hg).1)
    by_cases h0 : o.uses = 0
    · have hui : (o.uses == 0) = true := by rw [h0]; rfl
      have HR : Hid (dropB x L = (L, 11)) := Lib.hid (by unfold dropB; rw [hg]; exact if_pos h0)
      clear hg hou h0
      go_enter Tryz.func29, Tryz.ntmps29
      go_wp2_with fail
      generalize w.alloc (.cells #[.int .u32 (x.1 : Int), .int .i64 x.2] 47) = w0 at *
      go_wp2
      have hS0 : Below w0.heap.size w0 w0.drew := (Below.refl _ _).drew
      refine region_S (fun w' => Below w0.heap.size w0 w') 11 (by kernel_rfl) (by kernel_rfl) ?_
      refine take_S 0 rfl (by kernel_rfl) (by kernel_rfl) hS0 (fun w' hS => by go_simp; rfl) ?_
      refine take_S 1 rfl (by kernel_rfl) (by kernel_rfl) hS0 (fun w' hS => by go_simp; rfl) ?_
      refine take_S 2 rfl (by kernel_rfl) (by kernel_rfl) hS0 (fun w' hS => by go_simp; rfl) ?_
      refine take_S 3 rfl (by kernel_rfl) (by kernel_rfl) hS0 (fun w' hS => by have A0 := (HBB.out.below hS).cell; go_simp; rfl) ?_
      refine take_S 4 rfl (by kernel_rfl) (by kernel_rfl) hS0 (fun w' hS => by have A0 := (HX.out.below hS HX.out.lt).c0; have A1 := (HX.out.below hS HX.out.lt).c1; go_simp; rfl) ?_
      refine take_S 5 rfl (by kernel_rfl) (by kernel_rfl) hS0 (fun w' hS => by have A0 := LK.out w' (HBB.out.below hS); go_simp; rfl) ?_
      refine take_S 6 rfl (by kernel_rfl) (by kernel_rfl) hS0 (fun w' hS => by go_simp; rfl) ?_
      refine take_S 7 rfl (by kernel_rfl) (by kernel_rfl) hS0 (fun w' hS => by go_simp; rfl) ?_
      refine take_S 8 rfl (by kernel_rfl) (by kernel_rfl) hS0 (fun w' hS => by go_simp; rfl) ?_
      refine carry_S 9 rfl (by kernel_rfl) (by decide) (by kernel_rfl) (fun K hK => ?_)
      go_simp
      have hS5 : Below w0.heap.size w0 ((w0.alloc (.cells #[.int .u32 0, .int .i64 0, .int .i64 0, .string ⟨#[]⟩] 82)).drew) := ((Below.refl _ w0).alloc (Nat.le_refl _) _).drew
      have hbh : Box4 w0.heap.size (.int .u32 0) (.int .i64 0) (.int .i64 0) (.string ⟨#[]⟩) ((w0.alloc (.cells #[.int .u32 0, .int .i64 0, .int .i64 0, .string ⟨#[]⟩] 82)).drew) := Box4.mk' w0.drew _ _ _ _ _
      refine hK _ _ hS5 ?_
      clear hK K
      try simp only [Act.put, List.getElem_toArray, List.getElem_cons_succ, List.getElem_cons_zero, List.setIfInBounds_toArray, List.set_cons_zero, List.set_cons_succ]
      generalize (w0.alloc (.cells #[.int .u32 0, .int .i64 0, .int .i64 0, .string ⟨#[]⟩] 82)).drew = w6a at *
      have HBH0 := Lib.hid hbh
      obtain ⟨b0, b1, b2, b3, hf⟩ := hbh
      have f0 := hf 0
      have f1 := hf 1
      have f2 := hf 2
      have f3 := hf 3
      refine carry_S 10 rfl (by kernel_rfl) (by decide) (by kernel_rfl) (fun K hK => ?_)
      go_simp
      have hS6 := below_set4 hS5 (Nat.le_refl _) (.int .u32 (o.id.1 : Int)) (.int .i64 o.id.2) (.int .i64 o.uses) (.string (bs o.text))
      refine hK _ _ hS6 (forced_S (by kernel_rfl) ?_)
      clear hK K
      try simp only [Act.put, List.getElem_toArray, List.getElem_cons_succ, List.getElem_cons_zero, List.setIfInBounds_toArray, List.set_cons_zero, List.set_cons_succ]
      simp only [List.drop_succ_cons, List.drop_zero]
      have HBH := Lib.hid (HBH0.out.set (.int .u32 (o.id.1 : Int)) (.int .i64 o.id.2) (.int .i64 o.uses) (.string (bs o.text)))
      generalize ((((w6a.setCell ⟨w0.heap.size, 0, none⟩ (.int .u32 (o.id.1 : Int))).setCell ⟨w0.heap.size, 1, none⟩ (.int .i64 o.id.2)).setCell ⟨w0.heap.size, 2, none⟩ (.int .i64 o.uses)).setCell ⟨w0.heap.size, 3, none⟩ (.string (bs o.text))) = w6 at *
      clear hS5 hS0 HBH0 b0 b1 b2 b3 hf f0 f1 f2 f3
      obtain ⟨h0, h1, h2, h3, _⟩ := HBH.out
      have HB6 := Lib.hid (HB0.out.trans (hS6.mono HB0.out.size))
      have HBB6 := Lib.hid (HBB.out.below hS6)
      have HX6 := Lib.hid (HX.out.below hS6 HX.out.lt)
      have s0 : w6.cell? ⟨6, 0, none⟩ = some (sval a 10) := (HS.out w6 HB6.out) 10 (by simp)
      unfold sval at s0
      clear hS6
      go_wp2
      go_ret
      exact drop_bad HR.out (ES.sent a 10 (by decide)) HBB6.out HB6.out
    · have hui : (o.uses == 0) = false := by rw [beq_eq_false_iff_ne]; exact h0
      have HR : Hid (dropB x L = (setB ⟨o.id, o.uses - 1, o.text⟩ L, 0)) := Lib.hid (by unfold dropB; rw [hg]; exact if_neg h0)
      have HWR : Hid (IntKind.i64.wrap (o.uses - 1) = o.uses - 1) := Lib.hid (IntWalk.i64_in _ (by omega))
      have HHW : Hid (HldW ⟨o.id, o.uses - 1, o.text⟩) := Lib.hid ⟨HIO.out.1, by show -9223372036854775808 ≤ o.uses - 1; omega, by show o.uses - 1 ≤ 9223372036854775807; omega⟩
      have u0 : 1 ≤ o.uses := by omega
      have u1 : o.uses ≤ 4611686018427387904 := by omega
      clear hg hou h0
      go_enter Tryz.func29, Tryz.ntmps29
      go_wp2_with fail
      generalize w.alloc (.cells #[.int .u32 (x.1 : Int), .int .i64 x.2] 47) = w0 at *
      go_wp2
      have hS0 : Below w0.heap.size w0 w0.drew := (Below.refl _ _).drew
      refine region_S (fun w' => Below w0.heap.size w0 w') 11 (by kernel_rfl) (by kernel_rfl) ?_
      refine take_S 0 rfl (by kernel_rfl) (by kernel_rfl) hS0 (fun w' hS => by go_simp; rfl) ?_
      refine take_S 1 rfl (by kernel_rfl) (by kernel_rfl) hS0 (fun w' hS => by go_simp; rfl) ?_
      refine take_S 2 rfl (by kernel_rfl) (by kernel_rfl) hS0 (fun w' hS => by go_simp; rfl) ?_
      refine take_S 3 rfl (by kernel_rfl) (by kernel_rfl) hS0 (fun w' hS => by have A0 := (HBB.out.below hS).cell; go_simp; rfl) ?_
      refine take_S 4 rfl (by kernel_rfl) (by kernel_rfl) hS0 (fun w' hS => by have A0 := (HX.out.below hS HX.out.lt).c0; have A1 := (HX.out.below hS HX.out.lt).c1; go_simp; rfl) ?_
      refine take_S 5 rfl (by kernel_rfl) (by kernel_rfl) hS0 (fun w' hS => by have A0 := LK.out w' (HBB.out.below hS); go_simp; rfl) ?_
      refine take_S 6 rfl (by kernel_rfl) (by kernel_rfl) hS0 (fun w' hS => by go_simp; rfl) ?_
      refine take_S 7 rfl (by kernel_rfl) (by kernel_rfl) hS0 (fun w' hS => by go_simp; rfl) ?_
      refine take_S 8 rfl (by kernel_rfl) (by kernel_rfl) hS0 (fun w' hS => by go_simp; rfl) ?_
      refine carry_S 9 rfl (by kernel_rfl) (by decide) (by kernel_rfl) (fun K hK => ?_)
      go_simp
      have hS5 : Below w0.heap.size w0 ((w0.alloc (.cells #[.int .u32 0, .int .i64 0, .int .i64 0, .string ⟨#[]⟩] 82)).drew) := ((Below.refl _ w0).alloc (Nat.le_refl _) _).drew
      have hbh : Box4 w0.heap.size (.int .u32 0) (.int .i64 0) (.int .i64 0) (.string ⟨#[]⟩) ((w0.alloc (.cells #[.int .u32 0, .int .i64 0, .int .i64 0, .string ⟨#[]⟩] 82)).drew) := Box4.mk' w0.drew _ _ _ _ _
      refine hK _ _ hS5 ?_
      clear hK K
      try simp only [Act.put, List.getElem_toArray, List.getElem_cons_succ, List.getElem_cons_zero, List.setIfInBounds_toArray, List.set_cons_zero, List.set_cons_succ]
      generalize (w0.alloc (.cells #[.int .u32 0, .int .i64 0, .int .i64 0, .string ⟨#[]⟩] 82)).drew = w6a at *
      have HBH0 := Lib.hid hbh
      obtain ⟨b0, b1, b2, b3, hf⟩ := hbh
      have f0 := hf 0
      have f1 := hf 1
      have f2 := hf 2
      have f3 := hf 3
      refine carry_S 10 rfl (by kernel_rfl) (by decide) (by kernel_rfl) (fun K hK => ?_)
      go_simp
      have hS6 := below_set4 hS5 (Nat.le_refl _) (.int .u32 (o.id.1 : Int)) (.int .i64 o.id.2) (.int .i64 o.uses) (.string (bs o.text))
      refine hK _ _ hS6 (forced_S (by kernel_rfl) ?_)
      clear hK K
      try simp only [Act.put, List.getElem_toArray, List.getElem_cons_succ, List.getElem_cons_zero, List.setIfInBounds_toArray, List.set_cons_zero, List.set_cons_succ]
      simp only [List.drop_succ_cons, List.drop_zero]
      have HBH := Lib.hid (HBH0.out.set (.int .u32 (o.id.1 : Int)) (.int .i64 o.id.2) (.int .i64 o.uses) (.string (bs o.text)))
      generalize ((((w6a.setCell ⟨w0.heap.size, 0, none⟩ (.int .u32 (o.id.1 : Int))).setCell ⟨w0.heap.size, 1, none⟩ (.int .i64 o.id.2)).setCell ⟨w0.heap.size, 2, none⟩ (.int .i64 o.uses)).setCell ⟨w0.heap.size, 3, none⟩ (.string (bs o.text))) = w6 at *
      clear hS5 hS0 HBH0 b0 b1 b2 b3 hf f0 f1 f2 f3
      obtain ⟨h0, h1, h2, h3, _⟩ := HBH.out
      have HB6 := Lib.hid (HB0.out.trans (hS6.mono HB0.out.size))
      have HBB6 := Lib.hid (HBB.out.below hS6)
      have HX6 := Lib.hid (HX.out.below hS6 HX.out.lt)
      have hf2 := HBH.out.f 2
      have HS6 := Lib.hid hS6
      have hS7 : Below w0.heap.size w0 (w6.setCell ⟨w0.heap.size, 2, none⟩ (.int .i64 (o.uses - 1))) := hS6.setCell (p := ⟨w0.heap.size, 2, none⟩) (Nat.le_refl _) _
      have HBH7 := Lib.hid (Box4.set2' HBH.out (.int .i64 (o.uses - 1)))
      have HB7 := Lib.hid (HB0.out.trans (hS7.mono HB0.out.size))
      have HBB7 := Lib.hid (HBB.out.below hS7)
      have HX7 := Lib.hid (HX.out.below hS7 HX.out.lt)
      clear hS6 hS7
      go_wp2
      generalize w6.setCell ⟨w0.heap.size, 2, none⟩ (.int .i64 (o.uses - 1)) = w7 at *
      have hS0 : Below w7.heap.size w7 w7.drew := (Below.refl _ _).drew
      refine region_S (fun w' => Below w7.heap.size w7 w') 6 (by kernel_rfl) (by kernel_rfl) ?_
      refine take_S 0 rfl (by kernel_rfl) (by kernel_rfl) hS0 (fun w' hS => by go_simp; rfl) ?_
      refine take_S 1 rfl (by kernel_rfl) (by kernel_rfl) hS0 (fun w' hS => by go_simp; rfl) ?_
      refine take_S 2 rfl (by kernel_rfl) (by kernel_rfl) hS0 (fun w' hS => by go_simp; rfl) ?_
      refine take_S 3 rfl (by kernel_rfl) (by kernel_rfl) hS0 (fun w' hS => by have A0 := (HBB7.out.below hS).cell; go_simp; rfl) ?_
      refine take_S 4 rfl (by kernel_rfl) (by kernel_rfl) hS0 (fun w' hS => by have A0 := (HX7.out.below hS HX7.out.lt).c0; have A1 := (HX7.out.below hS HX7.out.lt).c1; go_simp; rfl) ?_
      refine take_S 5 rfl (by kernel_rfl) (by kernel_rfl) hS0 (fun w' hS => by have A0 := (HBH7.out.below hS HBH7.out.lt).c0; have A1 := (HBH7.out.below hS HBH7.out.lt).c1; have A2 := (HBH7.out.below hS HBH7.out.lt).c2; have A3 := (HBH7.out.below hS HBH7.out.lt).c3; go_simp; rfl) (forced_S (by kernel_rfl) ?_)
      try simp only [Act.put, List.getElem_toArray, List.getElem_cons_succ, List.getElem_cons_zero, List.setIfInBounds_toArray, List.set_cons_zero, List.set_cons_succ]
      simp only [List.drop_succ_cons, List.drop_zero]
      have HT := Lib.hid (HBB7.out.drew)
      go_wp2_with (first | (at_mapUpdate; refine wpList_mapUpdate_in _ rfl _ _ _ 117 rfl 47 82 lawI Tryz.underlying117 hldElem mb L.length (dataB L) rfl HT.out.map HLEN.out (idV x) (hldV ⟨o.id, o.uses - 1, o.text⟩) _ rfl rfl HKEY.out (hldU ⟨o.id, o.uses - 1, o.text⟩) [] (hldElem_mk HHW.out) ?_; intro w8 hown8 hturn8; have hg8 := hturn8.grown; have HG8 := Lib.hid hg8; have HOWN8 := Lib.hid hown8; clear hown8 hturn8 hg8) | fail)
      go_ret
      have hown := HOWN8.out
      rw [← HOX.out] at hown
      exact ⟨_, rfl, by rw [HR.out]; exact ES.none a, by rw [HR.out]; exact HT.out.put HOK.out.srt HOK.out.idok0 ⟨o.id, o.uses - 1, o.text⟩ HIO.out hown HG8.out, (gb_of_below HB7.out.drew).trans HG8.out⟩
  | none =>
    have LK := Lib.hid (fun w' (h : OBin b mb L w') => h.look_none HOK.out.idok HIX.out hg)
    have HR : Hid (dropB x L = (L, 5)) := Lib.hid (by unfold dropB; rw [hg])
    clear hg
    go_enter Tryz.func29, Tryz.ntmps29
    go_wp2_with fail
    generalize w.alloc (.cells #[.int .u32 (x.1 : Int), .int .i64 x.2] 47) = w0 at *
    go_wp2
    have hS0 : Below w0.heap.size w0 w0.drew := (Below.refl _ _).drew
    refine region_S (fun w' => Below w0.heap.size w0 w') 11 (by kernel_rfl) (by kernel_rfl) ?_
    refine take_S 0 rfl (by kernel_rfl) (by kernel_rfl) hS0 (fun w' hS => by go_simp; rfl) ?_
    refine take_S 1 rfl (by kernel_rfl) (by kernel_rfl) hS0 (fun w' hS => by go_simp; rfl) ?_
    refine take_S 2 rfl (by kernel_rfl) (by kernel_rfl) hS0 (fun w' hS => by go_simp; rfl) ?_
    refine take_S 3 rfl (by kernel_rfl) (by kernel_rfl) hS0 (fun w' hS => by have A0 := (HBB.out.below hS).cell; go_simp; rfl) ?_
    refine take_S 4 rfl (by kernel_rfl) (by kernel_rfl) hS0 (fun w' hS => by have A0 := (HX.out.below hS HX.out.lt).c0; have A1 := (HX.out.below hS HX.out.lt).c1; go_simp; rfl) ?_
    refine take_S 5 rfl (by kernel_rfl) (by kernel_rfl) hS0 (fun w' hS => by have A0 := LK.out w' (HBB.out.below hS); go_simp; rfl) ?_
    refine take_S 6 rfl (by kernel_rfl) (by kernel_rfl) hS0 (fun w' hS => by go_simp; rfl) ?_
    refine take_S 7 rfl (by kernel_rfl) (by kernel_rfl) hS0 (fun w' hS => by go_simp; rfl) ?_
    refine take_S 8 rfl (by kernel_rfl) (by kernel_rfl) hS0 (fun w' hS => by go_simp; rfl) ?_
    refine carry_S 9 rfl (by kernel_rfl) (by decide) (by kernel_rfl) (fun K hK => ?_)
    go_simp
    have hS5 : Below w0.heap.size w0 ((w0.alloc (.cells #[.int .u32 0, .int .i64 0, .int .i64 0, .string ⟨#[]⟩] 82)).drew) := ((Below.refl _ w0).alloc (Nat.le_refl _) _).drew
    have hbh : Box4 w0.heap.size (.int .u32 0) (.int .i64 0) (.int .i64 0) (.string ⟨#[]⟩) ((w0.alloc (.cells #[.int .u32 0, .int .i64 0, .int .i64 0, .string ⟨#[]⟩] 82)).drew) := Box4.mk' w0.drew _ _ _ _ _
    refine hK _ _ hS5 ?_
    clear hK K
    try simp only [Act.put, List.getElem_toArray, List.getElem_cons_succ, List.getElem_cons_zero, List.setIfInBounds_toArray, List.set_cons_zero, List.set_cons_succ]
    generalize (w0.alloc (.cells #[.int .u32 0, .int .i64 0, .int .i64 0, .string ⟨#[]⟩] 82)).drew = w6a at *
    have HBH0 := Lib.hid hbh
    obtain ⟨b0, b1, b2, b3, hf⟩ := hbh
    have f0 := hf 0
    have f1 := hf 1
    have f2 := hf 2
    have f3 := hf 3
    refine carry_S 10 rfl (by kernel_rfl) (by decide) (by kernel_rfl) (fun K hK => ?_)
    go_simp
    have hS6 := below_set4 hS5 (Nat.le_refl _) (.int .u32 (hldZ.id.1 : Int)) (.int .i64 hldZ.id.2) (.int .i64 hldZ.uses) (.string (bs hldZ.text))
    refine hK _ _ hS6 (forced_S (by kernel_rfl) ?_)
    clear hK K
    try simp only [Act.put, List.getElem_toArray, List.getElem_cons_succ, List.getElem_cons_zero, List.setIfInBounds_toArray, List.set_cons_zero, List.set_cons_succ]
    simp only [List.drop_succ_cons, List.drop_zero]
    have HBH := Lib.hid (HBH0.out.set (.int .u32 (hldZ.id.1 : Int)) (.int .i64 hldZ.id.2) (.int .i64 hldZ.uses) (.string (bs hldZ.text)))
    generalize ((((w6a.setCell ⟨w0.heap.size, 0, none⟩ (.int .u32 (hldZ.id.1 : Int))).setCell ⟨w0.heap.size, 1, none⟩ (.int .i64 hldZ.id.2)).setCell ⟨w0.heap.size, 2, none⟩ (.int .i64 hldZ.uses)).setCell ⟨w0.heap.size, 3, none⟩ (.string (bs hldZ.text))) = w6 at *
    clear hS5 hS0 HBH0 b0 b1 b2 b3 hf f0 f1 f2 f3
    obtain ⟨h0, h1, h2, h3, _⟩ := HBH.out
    have HB6 := Lib.hid (HB0.out.trans (hS6.mono HB0.out.size))
    have HBB6 := Lib.hid (HBB.out.below hS6)
    have HX6 := Lib.hid (HX.out.below hS6 HX.out.lt)
    have s0 : w6.cell? ⟨2, 0, none⟩ = some (sval a 4) := (HS.out w6 HB6.out) 4 (by simp)
    unfold sval at s0
    clear hS6
    go_wp2
    go_ret
    exact drop_bad HR.out (ES.sent a 4 (by decide)) HBB6.out HB6.out
end Go.Proofs.YtpanoplcamdnkaaGreatDoor
/- bins in memory: walks of Size, Sweep (and of the library's DeleteFunc at a bin's map), Copy. No conditions but bounds. -/
namespace Go.Proofs.YtpanoplcamdnkaaGreatDoor
open Go.RowKit Go.Lib Go.Maps Go.WideMaps

/-! ### a key, read back -/
set_option maxRecDepth 100000 in
theorem keyI_inv {v : Value} {kl : Lit} (h : keyOf Tryz.prog 47 v = some kl) : ∃ x, IdOk x ∧ v = idV x ∧ kl = idLit x := by
  have h1 : Tryz.prog.keyType 47 = true := by kernel_rfl
  have hc : Tryz.prog.cellsOf 47 = 2 := by kernel_rfl
  obtain ⟨m, hm⟩ : ∃ m, Tryz.prog.types.size + 1 = m + 2 := ⟨Tryz.prog.types.size - 1, by have : 0 < Tryz.prog.types.size := of_decide_eq_true (by kernel_rfl); omega⟩
  unfold keyOf at h
  rw [Tryz.underlying47] at h
  simp only [h1, Bool.true_and] at h
  split at h
  · next hf =>
    cases v with
    | agg cs =>
      have hsz : cs.size = 2 := by
        have := hf
        unfold Value.formed at this
        rw [Tryz.underlying47] at this
        simpa [hc] using this
      obtain ⟨c0, c1, rfl⟩ : ∃ c0 c1, cs = #[c0, c1] := by
        obtain ⟨l⟩ := cs
        match l, hsz with
        | [a, b], _ => exact ⟨a, b, rfl⟩
      simp only [Value.cells] at h
      rw [hm] at h
      have hk : ∃ p n, c0 = .int .u32 p ∧ c1 = .int .i64 n ∧ (Lit.int .u32 p).wf = true ∧ (Lit.int .i64 n).wf = true := by
        have hc1 : Tryz.prog.cellsOf 45 = 1 := by kernel_rfl
        have hc2 : Tryz.prog.cellsOf 3 = 1 := by kernel_rfl
        cases c0 with
        | int q a =>
          by_cases h0 : q = .u32 ∧ (Lit.int .u32 a).wf = true
          · cases c1 with
            | int q1 a1 =>
              by_cases h2 : q1 = .i64 ∧ (Lit.int .i64 a1).wf = true
              · exact ⟨a, a1, by rw [h0.1], by rw [h2.1], h0.2, h2.2⟩
              · exfalso
                simp [Program.keyLits, Tryz.underlying47, Tryz.underlying45, Tryz.underlying3, hc, hc1, hc2, h0, h2] at h
            | _ =>
              exfalso
              simp [Program.keyLits, Tryz.underlying47, Tryz.underlying45, Tryz.underlying3, hc, hc1, hc2, h0] at h
          · exfalso
            simp [Program.keyLits, Tryz.underlying47, Tryz.underlying45, Tryz.underlying3, hc, hc1, hc2, h0] at h
        | _ =>
          exfalso
          simp [Program.keyLits, Tryz.underlying47, Tryz.underlying45, Tryz.underlying3, hc, hc1, hc2] at h
      obtain ⟨p, n, rfl, rfl, w1, w2⟩ := hk
      simp [Lit.wf, IntKind.min, IntKind.max, IntKind.bits, IntKind.signed] at w1 w2
      have hix : IdOk (p.toNat, n) := ⟨by show p.toNat < _; omega, by show _ ≤ n; omega, by show n ≤ _; omega⟩
      have hv : Value.agg #[.int .u32 p, .int .i64 n] = idV (p.toNat, n) := by show _ = Value.agg #[.int .u32 ((p.toNat : Nat) : Int), .int .i64 n]; rw [show ((p.toNat : Nat) : Int) = p by omega]
      refine ⟨(p.toNat, n), hix, hv, ?_⟩
      have := keyI hix
      rw [← hv] at this
      unfold keyOf at this
      rw [Tryz.underlying47] at this
      simp only [h1, Bool.true_and, hf, if_true, Value.cells, hm] at this
      rw [this] at h
      exact (Option.some.inj h).symm
    | _ => simp [Value.formed, Tryz.underlying47] at hf
  · cases h
theorem mkI_inv : ∀ key kl, keyOf Tryz.prog 47 key = some kl → ∃ x : Idn, key = idV x := fun _ _ h => by obtain ⟨x, _, hv, _⟩ := keyI_inv h; exact ⟨x, hv⟩
theorem mkH_inv : ∀ (v : Value) (y : DataW Unit × List MemPlace), hldElem v = some y → ∃ h : Hld, v = hldV h := fun _ _ h => by obtain ⟨o, hv, _⟩ := hldElem_inv h; exact ⟨o, hv⟩
theorem idV_inj {x y : Idn} (h : idV x = idV y) : x = y := by
  injection h with h
  injection h with h
  injection h with h1 h
  injection h with h2 _
  injection h1 with _ h1
  injection h2 with _ h2
  exact Prod.ext (by omega) h2
theorem hldV_inj {x y : Hld} (h : hldV x = hldV y) : x = y := by
  injection h with h
  injection h with h
  injection h with h1 h
  injection h with h2 h
  injection h with h3 h
  injection h with h4 _
  injection h1 with _ h1
  injection h2 with _ h2
  injection h3 with _ h3
  injection h4 with h4
  obtain ⟨⟨p, l⟩, u, s⟩ := x
  obtain ⟨⟨p', l'⟩, u', s'⟩ := y
  simp only at h1 h2 h3 h4
  have e1 : p = p' := by omega
  have e4 : s = s' := by have := congrArg (fun b : ByteArray => b.data.toList) h4; simpa [bs_toList] using this
  subst e1; subst h2; subst h3; subst e4
  rfl
/-- what comes out of a range over a bin's map -/
theorem came {L : HldL} (hL : ∀ y ∈ L, IdOk y.id) {x : Idn} {o : Hld} {kl : Lit} {yd : DataW Unit} {yp : List MemPlace} (hkey : keyOf Tryz.prog 47 (idV x) = some kl) (hv : hldElem (hldV o) = some (yd, yp)) (hat : ∀ zd, (dataB L).atKey kl zd = yd) :
    IdOk x ∧ kl = idLit x ∧ o ∈ L ∧ o.id = x ∧ yd = hldU o := by
  obtain ⟨x', hx, e, rfl⟩ := keyI_inv hkey
  obtain rfl := idV_inj e
  obtain ⟨o', e2, e3, _⟩ := hldElem_inv hv
  obtain rfl := hldV_inj e2
  injection e3 with e3 _
  subst e3
  have h1 := hat (hldU hldZ)
  rw [atKey_dataB hL hx] at h1
  have h2 := hat .nil
  cases hg : getB L x with
  | some p =>
    rw [hg] at h1
    obtain rfl := hldU_inj h1
    obtain ⟨m1, m2⟩ := getB_mem hg
    exact ⟨hx, rfl, m1, m2, rfl⟩
  | none =>
    exfalso
    have hh := has_dataB hL hx
    rw [hg] at hh
    rw [Maps.atKey_of_not_has hh] at h2
    cases h2
/-! ### a sum over what has come -/
def sumL (left : Lit → Bool) (L : HldL) : Int := ((L.filter fun h => !left (idLit h.id)).map fun h => h.id.2).sum
theorem sumL_cons (left : Lit → Bool) (y : Hld) (r : HldL) : sumL left (y :: r) = (if left (idLit y.id) = true then 0 else y.id.2) + sumL left r := by
  unfold sumL
  rw [List.filter_cons]
  cases left (idLit y.id) <;> simp
theorem sumL_start {L : HldL} (hL : ∀ y ∈ L, IdOk y.id) : sumL (Maps.has (dataB L)) L = 0 := by
  have : (L.filter fun h => !Maps.has (dataB L) (idLit h.id)) = [] := by
    rw [List.filter_eq_nil_iff]
    intro h hh
    rw [has_dataB hL (hL h hh)]
    cases hg : getB L h.id with
    | some _ => simp
    | none => exact absurd rfl (getB_none.1 hg h hh)
  unfold sumL
  rw [this]; rfl
theorem sumL_step {left : Lit → Bool} {o : Hld} (ho : IdOk o.id) (hl : left (idLit o.id) = true) : ∀ {M : HldL}, SrtB M → (∀ y ∈ M, IdOk y.id) →
    sumL (fun z => left z && !z.sameKey (idLit o.id)) M = sumL left M + (if (getB M o.id).isSome = true then o.id.2 else 0)
  | [], _, _ => by simp [sumL, getB]
  | y :: r, hs, hM => by
    obtain ⟨h1, h2⟩ := srtB_cons.1 hs
    have ih := sumL_step ho hl h2 (fun z hz => hM z (List.mem_cons_of_mem _ hz))
    rw [sumL_cons, sumL_cons, ih, idLit_same (hM y List.mem_cons_self) ho]
    by_cases e : y.id = o.id
    · have hn : getB r o.id = none := getB_none.2 fun z hz e2 => lesser_ne (h1 z hz) (e.trans e2.symm)
      have hg : (getB (y :: r) o.id).isSome = true := by unfold getB; simp [e]
      rw [hg, hn, e, hl]; simp; omega
    · have hg : getB (y :: r) o.id = getB r o.id := by unfold getB; simp [e]
      rw [hg]
      simp [e]
      split <;> omega
theorem sumL_end {left : Lit → Bool} {L : HldL} (hl : ∀ kl, left kl = false) : sumL left L = sizeB L := by
  unfold sumL sizeB
  rw [List.filter_eq_self.2 (fun h _ => by simp [hl])]
theorem sumL_bound {left : Lit → Bool} {L : HldL} (h : ∀ x ∈ L, 0 ≤ x.id.2 ∧ x.id.2 ≤ 64) : 0 ≤ sumL left L ∧ sumL left L ≤ 64 * L.length := by
  induction L with
  | nil => simp [sumL]
  | cons y r ih =>
    have h1 := ih (fun x hx => h x (List.mem_cons_of_mem _ hx))
    have h2 := h y List.mem_cons_self
    rw [sumL_cons, List.length_cons]
    split <;> omega
theorem BinOk.lens {n : Int} {L : HldL} (h : BinOk n L) : ∀ x ∈ L, 0 ≤ x.id.2 ∧ x.id.2 ≤ 64 := fun x hx => by
  have h1 := h.all x hx
  have h2 := h1.len
  rw [h1.id]
  show (0 : Int) ≤ ((x.text.length : Nat) : Int) ∧ ((x.text.length : Nat) : Int) ≤ 64
  omega
set_option maxRecDepth 100000 in
set_option maxHeartbeats 1000000 in
theorem BnSize_any (b mb : Nat) (L : HldL) (n : Int) (hL : BinOk n L) (hl : L.length ≤ 1000000) (w : World) (hB : OBin b mb L w) :
    Calls Tryz.prog 30 #[.pointer (some ⟨b, 0, none⟩)] w fun e w' => e = .returned (.int .i64 (sizeB L)) ∧ Below w.heap.size w w' := by
  have HB := Lib.hid hB
  have HOK := Lib.hid hL
  have c0 := hB.cell
  have hbl := hB.lt
  have hml := hB.map.lt
  clear hB hL
  go_enter Tryz.func30, Tryz.ntmps30
  go_wp2_with (first | (at_range; refine wpList_range_own _ rfl _ 117 rfl 47 82 lawI Tryz.underlying117 hldElem mb L.length (dataB L) rfl HB.out.map ?_; intro w0 hrg0 hg0 hs0) | fail)
  go_frame
  have HRG0 := Lib.hid hrg0
  have HG0 := Lib.hid hg0
  have HS0 := Lib.hid hs0
  clear hrg0 hg0 hs0
  go_loopg [3] (Maps.size (dataB L)) (fun gh v3 wr => ∃ (left : Lit → Bool) (z : Int), wr.ranges Tryz.prog 47 hldElem mb w.heap.size L.length (dataB L) left gh ∧ v3 = .int .i64 z ∧ Hid (z = sumL left L) ∧ 0 ≤ z ∧ z ≤ 64 * (L.length : Int) ∧ Below w.heap.size w wr)
  case atStart => exact ⟨_, 0, HRG0.out, rfl, Lib.hid (sumL_start HOK.out.idok).symm, by omega, by omega, (Below.refl _ _).grown HG0.out (Nat.le_refl _) (fun j hj => by cases hj)⟩
  case round =>
    obtain ⟨left, z, hrg, rfl, hz, hz0, hz1, hB⟩ := hrel
    go_wp2_with (first | (at_next; refine wpList_next_ranges _ rfl _ rfl 47 lawI hldElem idV hldV mkI_inv mkH_inv mb w.heap.size L.length (dataB L) left _ rfl hrg ?_ ?_) | fail)
    · intro _ hl0
      have HZ : Hid (z = sizeB L) := Lib.hid (hz.out.trans (sumL_end hl0))
      clear hl0
      go_wp2
      go_ret
      exact ⟨by rw [HZ.out]; rfl, hB⟩
    · intro x1 x2 o kl yd yp w2 cnt2 hkey hlk hv hat hrg2 hlt hg2 hs2 hen
      obtain ⟨hx, rfl, hm, hox, rfl⟩ := came (x := (x1, x2)) HOK.out.idok hkey hv hat
      rw [← hox] at hx hkey hlk hat hrg2 hen ⊢
      clear hox
      have hl1 := HOK.out.lens o hm
      have hsome : (getB L o.id).isSome = true := by
        cases hg : getB L o.id with
        | some _ => rfl
        | none => exact absurd rfl (getB_none.1 hg o hm)
      have hst := sumL_step hx hlk HOK.out.srt HOK.out.idok
      rw [hsome, if_pos rfl, ← hz.out] at hst
      have HST := Lib.hid hst
      have hbd := sumL_bound (left := fun z => left z && !z.sameKey (idLit o.id)) HOK.out.lens
      rw [hst] at hbd
      have hb2 : Below w.heap.size w w2 := hB.grown hg2 hB.size (fun j hj => by cases hj; exact Nat.le_refl _)
      have HB2 := Lib.hid (hb2.alloc hb2.size (.cells #[.int .u32 (o.id.1 : Int), .int .i64 o.id.2] 47))
      have HRG2 := Lib.hid (hrg2.alloc (.cells #[.int .u32 (o.id.1 : Int), .int .i64 o.id.2] 47))
      clear hkey hlk hv hat hrg2 hg2 hs2 hst hsome hz hB hb2 hx hm hrg
      go_wp2
      go_roundg cnt2
      case measure => exact hlt
      case rel => exact ⟨_, z + o.id.2, HRG2.out, rfl, Lib.hid HST.out.symm, hbd.1, hbd.2, HB2.out⟩
end Go.Proofs.YtpanoplcamdnkaaGreatDoor
/- bins in memory: walks of Sweep (and of the library's DeleteFunc at a bin's map), Copy. No conditions but bounds. -/
namespace Go.Proofs.YtpanoplcamdnkaaGreatDoor
open Go.RowKit Go.Lib Go.Maps Go.WideMaps

theorem BnSw1_any (x : Idn) (o : Hld) (w : World) : Calls Tryz.prog 64 #[idV x, hldV o] w fun e w' => e = .returned (.bool (o.uses == 0)) ∧ Below w.heap.size w w' := by
  have hb : Below w.heap.size w ((w.alloc (.cells #[.int .u32 (x.1 : Int), .int .i64 x.2] 47)).alloc (.cells #[.int .u32 (o.id.1 : Int), .int .i64 o.id.2, .int .i64 o.uses, .string (bs o.text)] 82)) := ((Below.refl _ w).alloc (Nat.le_refl _) _).alloc (by simp) _
  go_enter Tryz.func64, Tryz.ntmps64
  go_wp2
  go_ret
  exact ⟨rfl, hb⟩
/-- what is struck -/
def pdB : Lit → DataW Unit → Bool
  | _, .agg [_, _, .lit (.int _ u), _] => u == 0
  | _, _ => false
theorem pdB_hld (kl : Lit) (o : Hld) : pdB kl (hldU o) = (o.uses == 0) := rfl
theorem del_dataB (L : HldL) : Lib.deleteFuncD pdB (dataB L) = dataB (sweepB L) := by
  unfold sweepB
  refine filter_dataB usedB pdB L (fun x _ => ?_)
  rw [pdB_hld]
  unfold usedB
  by_cases h : x.uses = 0 <;> simp [h]
theorem mkL {L : HldL} {p : Lit × DataW Unit} (h : p ∈ L.map fun h => (idLit h.id, hldU h)) : ∃ o ∈ L, p = (idLit o.id, hldU o) := by
  obtain ⟨o, ho, e⟩ := List.mem_map.1 h
  exact ⟨o, ho, e.symm⟩
theorem keys_apart {L : HldL} (hs : SrtB L) (hL : ∀ y ∈ L, IdOk y.id) : (L.map fun h => (idLit h.id, hldU h)).Pairwise (fun p q => p.1 ≠ q.1) := by
  induction L with
  | nil => exact List.Pairwise.nil
  | cons y r ih =>
    obtain ⟨h1, h2⟩ := srtB_cons.1 hs
    rw [List.map_cons]
    refine List.pairwise_cons.2 ⟨fun q hq => ?_, ih h2 (fun z hz => hL z (List.mem_cons_of_mem _ hz))⟩
    obtain ⟨o, ho, rfl⟩ := mkL hq
    intro e
    have := idLit_same (hL y List.mem_cons_self) (hL o (List.mem_cons_of_mem _ ho))
    rw [show idLit y.id = idLit o.id from e] at this
    rw [WideAt.sameKey_self (by rw [idLit_eq (hL o (List.mem_cons_of_mem _ ho))]; trivial)] at this
    exact lesser_ne (h1 o ho) (by simpa using this.symm)
/-- what comes out of a range over a bin's map from which some have been struck -/
theorem cameF {L : HldL} (hs : SrtB L) (hL : ∀ y ∈ L, IdOk y.id) {left : Lit → Bool} {x : Idn} {o : Hld} {kl : Lit} {yd : DataW Unit} {yp : List MemPlace} (hkey : keyOf Tryz.prog 47 (idV x) = some kl) (hlk : left kl = true) (hv : hldElem (hldV o) = some (yd, yp))
    (hat : ∀ zd, (Fk pdB (L.map fun h => (idLit h.id, hldU h)) left).atKey kl zd = yd) : IdOk x ∧ kl = idLit x ∧ o ∈ L ∧ o.id = x ∧ yd = hldU o := by
  obtain ⟨x', hx, e, rfl⟩ := keyI_inv hkey
  obtain rfl := idV_inj e
  obtain ⟨o', e2, e3, _⟩ := hldElem_inv hv
  obtain rfl := hldV_inj e2
  injection e3 with e3 _
  subst e3
  have hk : WideAt.IsKeyLit (idLit x) := by rw [idLit_eq hx]; trivial
  have hh := Maps.has_true_of_atKey hat
  unfold Fk at hh
  rw [Maps.has_eq, List.any_eq_true] at hh
  obtain ⟨q, hq, hsk⟩ := hh
  have hq' := (List.mem_filter.1 hq).1
  obtain ⟨o2, ho2, rfl⟩ := mkL hq'
  have hid : o2.id = x := by
    have := idLit_same (hL o2 ho2) hx
    rw [show (idLit o2.id).sameKey (idLit x) = true from hsk] at this
    simpa using this.symm
  have := at_cameK (keys_apart hs hL) hk hlk hat (idLit o2.id, hldU o2) hq' (by rw [hid])
  have h3 := hldU_inj this
  subst h3
  exact ⟨hx, rfl, ho2, hid, rfl⟩
set_option maxRecDepth 100000 in
set_option maxHeartbeats 1000000 in
theorem BnDelF_any (mb : Nat) (L : HldL) (n : Int) (hL : BinOk n L) (w : World) (hM : w.ownsMap Tryz.prog 47 hldElem mb L.length (dataB L)) :
    Calls Tryz.prog 63 #[.map (some mb), .func (.func 64) #[] #[]] w fun e w' => e = .returned (.tuple #[]) ∧ w'.ownsMap Tryz.prog 47 hldElem mb L.length (dataB (sweepB L)) ∧ w.grownBy w' (some mb) := by
  have HM := Lib.hid hM
  have HOK := Lib.hid hL
  have hml := hM.lt
  have HAP := Lib.hid (keys_apart hL.srt hL.idok)
  have HKY : Hid (∀ p ∈ L.map (fun h => (idLit h.id, hldU h)), WideAt.IsKeyLit p.1) := Lib.hid (fun p hp => by
    obtain ⟨o, ho, rfl⟩ := mkL hp
    show WideAt.IsKeyLit (idLit o.id)
    rw [idLit_eq (hL.idok o ho)]; trivial)
  clear hM hL
  go_enter Tryz.func63, Tryz.ntmps63
  go_wp2_with (first | (at_range; refine wpList_range_own _ rfl _ 117 rfl 47 82 lawI Tryz.underlying117 hldElem mb L.length (dataB L) rfl HM.out ?_; intro w0 hrg0 hg0 hs0) | fail)
  go_frame
  have HRG0 := Lib.hid hrg0
  have HG0 := Lib.hid hg0
  clear hrg0 hg0 hs0
  go_loopg [] (Maps.size (dataB L)) (fun gh wr => ∃ left : Lit → Bool, wr.ranges Tryz.prog 47 hldElem mb w.heap.size L.length (Fk pdB (L.map fun h => (idLit h.id, hldU h)) left) left gh ∧ w.grownBy wr (some mb))
  case atStart => exact ⟨Maps.has (dataB L), by rw [show Fk pdB (L.map fun h => (idLit h.id, hldU h)) (Maps.has (dataB L)) = dataB L from Fk_start HKY.out]; exact HRG0.out, HG0.out.but _⟩
  case round =>
    obtain ⟨left, hrg, hgw⟩ := hrel
    go_wp2_with (first | (at_next; refine wpList_next_ranges _ rfl _ rfl 47 lawI hldElem idV hldV mkI_inv mkH_inv mb w.heap.size L.length _ left _ rfl hrg ?_ ?_) | fail)
    · intro _ hl0
      have HZ : Hid (Fk pdB (L.map fun h => (idLit h.id, hldU h)) left = dataB (sweepB L)) := Lib.hid ((Fk_end hl0).trans (del_dataB L))
      have HOW := Lib.hid hrg.owns
      have HGW := Lib.hid hgw
      clear hl0 hrg hgw
      go_wp2
      go_end0
      exact ⟨rfl, by rw [← HZ.out]; exact HOW.out, HGW.out⟩
    · intro x1 x2 o kl yd yp w2 cnt2 hkey hlk hv hat hrg2 hlt hg2 hs2 hen
      obtain ⟨hx, rfl, hm, hox, rfl⟩ := cameF (x := (x1, x2)) HOK.out.srt HOK.out.idok hkey hlk hv hat
      rw [← hox] at hx hkey hlk hat hrg2 hen ⊢
      clear hox
      have hgw2 := hgw.andThen hg2 (fun j hj => by cases hj; exact Or.inl (Nat.le_refl _))
      have hb3 : Below w2.heap.size w2 ((w2.alloc (.cells #[.int .u32 (o.id.1 : Int), .int .i64 o.id.2] 47)).alloc (.cells #[.int .u32 (o.id.1 : Int), .int .i64 o.id.2, .int .i64 o.uses, .string (bs o.text)] 82)) := ((Below.refl _ w2).alloc (Nat.le_refl _) _).alloc (by simp) _
      have hx3 : Box2 w2.heap.size (.int .u32 (o.id.1 : Int)) (.int .i64 o.id.2) ((w2.alloc (.cells #[.int .u32 (o.id.1 : Int), .int .i64 o.id.2] 47)).alloc (.cells #[.int .u32 (o.id.1 : Int), .int .i64 o.id.2, .int .i64 o.uses, .string (bs o.text)] 82)) := (Box2.mk' w2 _ _ _).alloc _
      have HX := Lib.hid hx
      have HLK := Lib.hid hlk
      have HAT := Lib.hid hat
      have HRG2 := Lib.hid hrg2
      have HGW2 := Lib.hid hgw2
      have HB3 := Lib.hid hb3
      have HX3 := Lib.hid hx3
      clear hkey hlk hv hat hrg2 hg2 hs2 hm hrg hgw hgw2 hb3 hx3 hx
      go_wp2_with fail
      refine (BnSw1_any o.id o _).mono ?_
      rintro e w4 ⟨rfl, hb4⟩
      have hx4 := HX3.out.below hb4 HX3.out.lt
      have hb24 := HB3.out.trans (hb4.mono HB3.out.size)
      have HRG4 := Lib.hid (HRG2.out.kept (gb_of_below (r := none) hb24) (by simp) (by simp))
      have HGW4 := Lib.hid (HGW2.out.andThen (gb_of_below (r := none) hb24) (fun j hj => by cases hj))
      obtain ⟨x0, y0, _, _⟩ := hx4
      clear hb4 hb24
      cases hu : (o.uses == 0) with
      | true =>
        have HU := Lib.hid hu
        clear hu
        go_wp2_with (first | (at_delete; refine wpList_delete_ranges _ rfl _ _ 117 47 rfl 82 lawI Tryz.underlying117 hldElem mb w.heap.size L.length _ _ _ rfl HRG4.out _ _ rfl (keyI HX.out) ?_; intro w5 cnt5 hrg5 hle hturn; go_frame) | fail)
        have hgw5 := HGW4.out.andThen hturn.grown (fun j hj => by cases hj; exact Or.inr rfl)
        rw [Maps.strike_twice] at hrg5
        have hst := Fk_struck HAP.out (show WideAt.IsKeyLit (idLit o.id) by rw [idLit_eq HX.out]; trivial) HLK.out (show pdB (idLit o.id) (hldU o) = true from HU.out) HAT.out
        rw [hst] at hrg5
        have HRG5 := Lib.hid hrg5
        have HGW5 := Lib.hid hgw5
        clear hrg5 hgw5 hst hturn
        go_roundg cnt5
        case measure => omega
        case rel => exact ⟨_, HRG5.out, HGW5.out⟩
      | false =>
        have HU := Lib.hid hu
        clear hu
        have hst := Fk_stays HAP.out (show WideAt.IsKeyLit (idLit o.id) by rw [idLit_eq HX.out]; trivial) HLK.out (show pdB (idLit o.id) (hldU o) = false from HU.out) HAT.out
        have hrg4 := HRG4.out
        rw [hst] at hrg4
        have HRG5 := Lib.hid hrg4
        clear hst hrg4
        go_wp2
        go_roundg cnt2
        case measure => exact hlt
        case rel => exact ⟨_, HRG5.out, HGW4.out⟩
theorem sizeB_sweep (L : HldL) : sizeB L - sizeB (sweepB L) = sizeB (L.filter fun h => !usedB h) := by
  have := sizeB_filter usedB L
  unfold sweepB; omega
set_option maxRecDepth 100000 in
set_option maxHeartbeats 1000000 in
theorem BnSweep_any (b mb : Nat) (L : HldL) (n : Int) (hL : BinOk n L) (hl : L.length ≤ 1000000) (w : World) (hB : OBin b mb L w) :
    Calls Tryz.prog 21 #[.pointer (some ⟨b, 0, none⟩)] w fun e w' => e = .returned (.int .i64 (sizeB (L.filter fun h => !usedB h))) ∧ OBin b mb (sweepB L) w' ∧ w.grownBy w' (some mb) := by
  have HB := Lib.hid hB
  have HOK := Lib.hid hL
  have hbl := hB.lt
  have hml := hB.map.lt
  have hsz := hL.size
  have hL2 : BinOk n (sweepB L) := binOk_filter hL usedB
  have hl2 : (sweepB L).length ≤ L.length := List.length_filter_le _ _
  have hsz2 := hL2.size
  have HOK2 := Lib.hid hL2
  have HSS := Lib.hid (sizeB_sweep L)
  have HSL : Hid ((sweepB L).length ≤ 1000000) := Lib.hid (by omega)
  have q1 : 0 ≤ sizeB (sweepB L) := hsz2.1
  have q2 : sizeB (sweepB L) ≤ 64000000 := by omega
  have q3 : 0 ≤ sizeB L := hsz.1
  have q4 : sizeB L ≤ 64000000 := by omega
  clear hB hL hL2 hsz hsz2 hl2
  go_enter Tryz.func21, Tryz.ntmps21
  go_wp2_with fail
  refine (BnSize_any b mb L n HOK.out hl w HB.out).mono ?_
  rintro e w1 ⟨rfl, hb1⟩
  have HB1 := Lib.hid (HB.out.below hb1)
  have HBW := Lib.hid hb1
  have c0 := HB1.out.cell
  clear hb1
  go_wp2_with fail
  refine (BnDelF_any mb L n HOK.out w1 HB1.out.map).mono ?_
  rintro e w2 ⟨rfl, hm2, hg2⟩
  have hB2 : OBin b mb (sweepB L) w2 := ⟨(hg2.block b HB1.out.lt (fun e => HB1.out.ne (Option.some.inj e))).trans HB1.out.row, ownsMap_tight hm2, HB1.out.ne⟩
  have HB2 := Lib.hid hB2
  have HG2 := Lib.hid ((gb_of_below (r := some mb) HBW.out).trans hg2)
  clear hm2 hg2 hB2
  go_wp2_with fail
  refine (BnSize_any b mb (sweepB L) n HOK2.out HSL.out w2 HB2.out).mono ?_
  rintro e w3 ⟨rfl, hb3⟩
  have HB3 := Lib.hid (HB2.out.below hb3)
  have HG3 := Lib.hid (HG2.out.trans (gb_of_below (r := some mb) hb3))
  clear hb3
  go_wp2
  go_ret
  exact ⟨by rw [← HSS.out]; rfl, HB3.out, HG3.out⟩
set_option maxRecDepth 100000 in
theorem BnCopy_any (b mb : Nat) (L : HldL) (w : World) (hB : OBin b mb L w) :
    Calls Tryz.prog 56 #[.pointer (some ⟨b, 0, none⟩)] w fun e w' => ∃ b2 mb2, e = .returned (.pointer (some ⟨b2, 0, none⟩)) ∧ OBin b2 mb2 L w' ∧ w.heap.size ≤ b2 ∧ w.heap.size ≤ mb2 ∧ Below w.heap.size w w' := by
  have HB := Lib.hid hB
  have c0 := hB.cell
  have CL := Lib.hid (AnyW.maps_Clone_owns Tryz.clone108 47 hldElem mb L.length (dataB L) w hB.map)
  clear hB
  go_enter Tryz.func56, Tryz.ntmps56
  go_wp2_with fail
  refine CL.out.mono ?_
  rintro e w1 ⟨rfl, ho1, _, hb1⟩
  have HO1 := Lib.hid ho1
  have HB1 := Lib.hid hb1
  have hlt := ho1.lt
  clear ho1 hb1
  go_wp2
  go_ret
  refine ⟨w1.heap.size, w.heap.size, rfl, ⟨heap_alloc_new w1 _, HO1.out.alloc _, by omega⟩, HB1.out.size, Nat.le_refl _, HB1.out.alloc HB1.out.size _⟩
end Go.Proofs.YtpanoplcamdnkaaGreatDoor

/- Trails: walk of Keep. Condition: the sentinels that are read lie as named. -/
import Derived.Test.YtbokckjlgjnnjaaGreatDoorTrl2
import Derived.Test.YtbokckjlgjnnjaaGreatDoorTrl3
import Derived.Maps.OwnIn
import Derived.Maps.OwnSet
import Derived.Maps.OwnOps
import Derived.Maps.Views
import Derived.StringKeys
import Derived.OwnWalk
namespace Go.Proofs.YtbokckjlgjnnjaaGreatDoor
open Go.RowKit Go.Lib Go.Shelf Go.Maps Go.WideMaps

attribute [local go_sem] Oper.semAt_some
theorem lawSt : Keyed Tryz.prog 9 := string_keyed Tryz.underlying9
theorem zeroSt (w : World) : (zeroValue 3).run Tryz.prog w = .ok (.int .i64 0) w := by kernel_rfl
theorem OwT.ownF {W W' : World} {row : Option Nat} {base : Nat} {T : TypeId} {v : Value} {l : EntL} (h : OwT W base T v l) (hg : W.grownBy W' row) (hr : ∀ r, row = some r → ∃ o : Obj, W.heap[r]? = some o ∧ o.isCells = false) : OwT W' base T v l := by
  obtain ⟨E, he, ho, hx⟩ := h
  refine ⟨E, he, ⟨ho.1, ?_⟩, fun x hm => ⟨(rdI_ownF (hx x hm).1 hg hr).more hg.size, (hx x hm).2⟩⟩
  rcases ho.2 with h | ⟨g, cap, cur, hv, hgb, hh, h3⟩
  · exact .inl h
  · refine .inr ⟨g, cap, cur, hv, hgb, (hg.block g (Array.getElem?_eq_some_iff.1 hh).1 (fun e => ?_)).trans hh, h3⟩
    obtain ⟨o, ho', hc⟩ := hr g e.symm
    rw [hh] at ho'; cases ho'; cases hc
/-- a row of the call's own that holds a trail; row and IDs lie from base on -/
def OwT2 (w : World) (base : Nat) (T : TypeId) (v : Value) (l : EntL) : Prop :=
  ∃ E : EntXL, E.map (·.1) = l ∧ w.ownsRow base T 5 v E.length (entRow E) ∧ ∀ x ∈ E, RdB w base w.heap.size x.2 x.1.r.ids ∧ ∀ g, v.ownBlock = some g → FarI x.2 x.1.r.ids g
theorem OwT2.nil (w : World) (base : Nat) (T : TypeId) : OwT2 w base T (.slice none 0 0) [] := ⟨[], rfl, World.ownsRow_nil _ _ _ _, fun _ h => absurd h List.not_mem_nil⟩
theorem OwT2.toT {w : World} {base : Nat} {T : TypeId} {v : Value} {l : EntL} (h : OwT2 w base T v l) : OwT w base T v l := by
  obtain ⟨E, he, ho, hx⟩ := h
  exact ⟨E, he, ho, fun x hm => ⟨(hx x hm).1.rd, (hx x hm).2⟩⟩
theorem RdB.ownF {W W' : World} {row : Option Nat} {lo hi : Nat} {v : Value} {L : IdL} (h : RdB W lo hi v L) (hg : W.grownBy W' row) (hr : ∀ r, row = some r → ∃ o : Obj, W.heap[r]? = some o ∧ o.isCells = false) : RdB W' lo hi v L := by
  obtain ⟨A, c, hv, hc, hx⟩ := h
  exact ⟨A, c, hv, hc, fun h0 => by obtain ⟨g, o, e1, e2, e3, e4⟩ := hx h0; exact ⟨g, o, e1, e2, e3, fun k u hu => cell_ownF (e4 k u hu) hg hr⟩⟩
theorem OwT2.ownF {W W' : World} {row : Option Nat} {base : Nat} {T : TypeId} {v : Value} {l : EntL} (h : OwT2 W base T v l) (hg : W.grownBy W' row) (hr : ∀ r, row = some r → ∃ o : Obj, W.heap[r]? = some o ∧ o.isCells = false) : OwT2 W' base T v l := by
  have h' := h.toT.ownF hg hr
  obtain ⟨E, he, ho, hx⟩ := h
  refine ⟨E, he, ⟨ho.1, ?_⟩, fun x hm => ⟨((hx x hm).1.ownF hg hr).wide (Nat.le_refl _) hg.size, (hx x hm).2⟩⟩
  rcases ho.2 with h | ⟨g, cap, cur, hv, hgb, hh, h3⟩
  · exact .inl h
  · refine .inr ⟨g, cap, cur, hv, hgb, (hg.block g (Array.getElem?_eq_some_iff.1 hh).1 (fun e => ?_)).trans hh, h3⟩
    obtain ⟨o, ho', hc⟩ := hr g e.symm
    rw [hh] at ho'; cases ho'; cases hc
theorem OwT2.below {w w' : World} {base : Nat} {T : TypeId} {v : Value} {l : EntL} (h : OwT2 w base T v l) (hb : Below w.heap.size w w') : OwT2 w' base T v l := by
  obtain ⟨E, he, ho, hx⟩ := h
  exact ⟨E, he, own_belowI ho hb, fun x hm => ⟨((hx x hm).1.below hb (Nat.le_refl _)).wide (Nat.le_refl _) hb.size, (hx x hm).2⟩⟩
theorem OwT2.set {w : World} {base b j : Nat} {T : TypeId} {v x : Value} {l : EntL} (h : OwT2 w base T v l) (hb : b < base) : OwT2 (w.setCell ⟨b, j, none⟩ x) base T v l := by
  obtain ⟨E, he, ho, hx⟩ := h
  exact ⟨E, he, own_setI ho hb, fun y hm => ⟨(hx y hm).1.keep (fun p h1 _ => World.cell?_setCell_other _ _ _ _ (by intro e; rw [← e] at h1; have : base ≤ b := h1; omega)) (Nat.le_refl _) (by simp [World.setCell]), (hx y hm).2⟩⟩
theorem OwT2.snoc {w w' : World} {base n : Nat} {T : TypeId} {v v' : Value} {E : EntXL} {l : EntL} (he : E.map (·.1) = l) (ho : w.ownsRow base T 5 v n (entRow E)) (hn : n = E.length) (hx : ∀ x ∈ E, RdB w base w.heap.size x.2 x.1.r.ids ∧ ∀ g, v.ownBlock = some g → FarI x.2 x.1.r.ids g)
    {y : EntX} (hy : RdB w base w.heap.size y.2 y.1.r.ids) (hyf : ∀ g, v.ownBlock = some g → FarI y.2 y.1.r.ids g) (ho' : w'.ownsRow base T 5 v' (n + 1) (entRow E ++ entCells y)) (hg : w.grownBy w' v.ownBlock)
    (hv' : v'.ownBlock = v.ownBlock ∨ v'.ownBlock = some w.heap.size) : OwT2 w' base T v' (l ++ [y.1]) := by
  subst hn
  refine ⟨E ++ [y], by rw [List.map_append, he]; rfl, by rw [List.length_append, entRow_snoc]; exact ho', fun x hm => ?_⟩
  have hz : RdB w base w.heap.size x.2 x.1.r.ids ∧ ∀ g, v.ownBlock = some g → FarI x.2 x.1.r.ids g := by
    rcases List.mem_append.1 hm with h | h
    · exact hx x h
    · rw [List.mem_singleton.1 h]; exact ⟨hy, hyf⟩
  refine ⟨?_, fun g e => ?_⟩
  · obtain ⟨A, c, hv, hc, hxx⟩ := hz.1
    refine ⟨A, c, hv, hc, fun h0 => ?_⟩
    obtain ⟨g, o, e1, e2, e3, e4⟩ := hxx h0
    refine ⟨g, o, e1, e2, Nat.lt_of_lt_of_le e3 hg.size, fun k u hu => (hg.cell_far ⟨g, o + k, none⟩ e3 (fun e => ?_)).trans (e4 k u hu)⟩
    exact hz.2 g e.symm h0 (by rw [hv, e1]; rfl)
  · rcases hv' with h1 | h1
    · exact hz.2 g (by rw [← h1]; exact e)
    · intro h0 e2
      have := hz.1.rd.lt h0 e2
      rw [h1] at e
      injection e with e
      omega
theorem gb_belowX {w w' : World} {B : Nat} (h : Below B w w') (hB : B = w.heap.size := by rfl) : w.grownBy w' none := by
  subst hB; exact ⟨h.os, h.tape, h.output, h.size, fun k hk _ => h.block k hk⟩
theorem lit_inj {q : IntKind} {a b : Int} (h : (DataW.lit (.int q a) : DataW Unit) = .lit (.int q b)) : a = b := by
  injection h with h
  injection h
/-- what the maker lays: a map, its box, the row's box, the iterator's box -/
theorem keep_made (w1 : World) (A : Option Addr) (n c : Nat) : let w6 := (((w1.alloc (.map #[] 0)).alloc (.cells #[.map (some w1.heap.size)] 88)).alloc (.cells #[.slice none 0 0] 25)).alloc (.cells #[.slice A n c] 25)
    Below w1.heap.size w1 w6 ∧ w6.heap.size = w1.heap.size + 1 + 1 + 1 + 1 ∧ w6.cell? ⟨w1.heap.size + 1, 0, none⟩ = some (.map (some w1.heap.size)) ∧ w6.cell? ⟨w1.heap.size + 1 + 1, 0, none⟩ = some (.slice none 0 0) ∧ w6.frozen? ⟨w1.heap.size + 1 + 1, 0, none⟩ = false ∧
      w6.cell? ⟨w1.heap.size + 1 + 1 + 1, 0, none⟩ = some (.slice A n c) ∧ True := by
  have h1 : Below w1.heap.size w1 (w1.alloc (.map #[] 0)) := (Below.refl _ _).alloc (Nat.le_refl _) _
  refine ⟨((h1.alloc h1.size _).alloc (by simp; omega) _).alloc (by simp; omega) _, by simp, ?_, ?_, ?_, ?_, trivial⟩
  · have h2 : Below ((w1.alloc (.map #[] 0)).alloc (.cells #[.map (some w1.heap.size)] 88)).heap.size ((w1.alloc (.map #[] 0)).alloc (.cells #[.map (some w1.heap.size)] 88)) _ := ((Below.refl _ _).alloc (Nat.le_refl _) (.cells #[.slice none 0 0] 25)).alloc (by simp) (.cells #[.slice A n c] 25)
    exact (h2.cell (p := ⟨w1.heap.size + 1, 0, none⟩) (by simp)).trans (by rw [World.cell?_alloc_at _ _ _ _ (by simp)]; rfl)
  · have h2 : Below (((w1.alloc (.map #[] 0)).alloc (.cells #[.map (some w1.heap.size)] 88)).alloc (.cells #[.slice none 0 0] 25)).heap.size (((w1.alloc (.map #[] 0)).alloc (.cells #[.map (some w1.heap.size)] 88)).alloc (.cells #[.slice none 0 0] 25)) _ := (Below.refl _ _).alloc (Nat.le_refl _) (.cells #[.slice A n c] 25)
    exact (h2.cell (p := ⟨w1.heap.size + 1 + 1, 0, none⟩) (by simp)).trans (by rw [World.cell?_alloc_at _ _ _ _ (by simp)]; rfl)
  · have h2 : Below (((w1.alloc (.map #[] 0)).alloc (.cells #[.map (some w1.heap.size)] 88)).alloc (.cells #[.slice none 0 0] 25)).heap.size (((w1.alloc (.map #[] 0)).alloc (.cells #[.map (some w1.heap.size)] 88)).alloc (.cells #[.slice none 0 0] 25)) _ := (Below.refl _ _).alloc (Nat.le_refl _) (.cells #[.slice A n c] 25)
    have hf : ∀ W : World, (W.alloc (.cells #[.slice none 0 0] 25)).frozen? ⟨W.heap.size, 0, none⟩ = false := fun _ => World.frozen?_alloc_new _ _ _ _
    exact (h2.frozen (p := ⟨w1.heap.size + 1 + 1, 0, none⟩) (by simp)).trans (by simpa using hf ((w1.alloc (.map #[] 0)).alloc (.cells #[.map (some w1.heap.size)] 88)))
  · rw [World.cell?_alloc_at _ _ _ _ (by simp)]; rfl
def pmE (E : EntXL) (pre : List (Fin E.length)) : EntL := pre.map fun k => (E[k.val]'k.isLt).1
theorem pmE_snoc (E : EntXL) (pre : List (Fin E.length)) (k : Fin E.length) : pmE E (pre ++ [k]) = pmE E pre ++ [(E[k.val]'k.isLt).1] := by unfold pmE; rw [List.map_append]; rfl
/-- what stands when pre has come -/
structure KI (w : World) (base mb mx my ob : Nat) (many : Int) (E : EntXL) (pre : List (Fin E.length)) (W : World) : Prop where
  bel : Below w.heap.size w W
  mx : W.cell? ⟨mx, 0, none⟩ = some (.map (some mb))
  my : W.cell? ⟨my, 0, none⟩ = some (.int .i64 many)
  map : ∃ D : DataW Unit, W.ownsMap Tryz.prog 9 (plainElem Tryz.prog 3) mb pre.length D ∧ IsMap D ∧ ∀ nm : Bytes, D.atKey (.string nm) (.lit (.int .i64 0)) = .lit (.int .i64 (cntN nm (pmE E pre)))
  out : ∃ v, W.cell? ⟨ob, 0, none⟩ = some v ∧ W.frozen? ⟨ob, 0, none⟩ = false ∧ OwT2 W base 38 v (outB many (pmE E pre))
  sz : base ≤ W.heap.size
theorem KI_own {w : World} {B base mb mx my ob : Nat} {many : Int} {E : EntXL} (hB : w.heap.size ≤ B) (hm : mb < B) (ho : ob < B) : OwnFrom B (KI w base mb mx my ob many E) := by
  rintro s W W' row ⟨h1, h2, h3, ⟨D, h4, h5, h6⟩, ⟨v, h7, h8, h9⟩, h10⟩ hg hr
  have hr' : ∀ r, row = some r → ∃ o : Obj, W.heap[r]? = some o ∧ o.isCells = false := fun r e => (hr r e).2
  refine ⟨h1.grown hg h1.size (fun r e => Nat.le_trans hB (hr r e).1), cell_ownF h2 hg hr', cell_ownF h3 hg hr', ⟨D, h4.kept hg (fun e => ?_), h5, h6⟩, ⟨v, cell_ownF h7 hg hr', ?_, h9.ownF hg hr'⟩, Nat.le_trans h10 hg.size⟩
  · have := (hr mb e.symm).1; omega
  · exact (hg.frozen_far ⟨ob, 0, none⟩ (World.block_lt_of_cell? W _ h7) (fun e => by have := (hr ob e.symm).1; omega)).trans h8
def KeepPost (a : Nat → Addr) (l : EntL) (many : Int) (w : World) (e : Ending) (w' : World) : Prop :=
  ∃ v r, e = .returned (.tuple #[v, r]) ∧ EV a r (keepRes l many).1.1 (keepRes l many).1.2 w' ∧ RdT w' w'.heap.size v (keepRes l many).2 ∧ Below w.heap.size w w'
theorem keepsF_gb {B : Nat} {W W1 W2 : World} {row : Option Nat} (h : KeepsFrom B W W1) (hg : W1.grownBy W2 row) (hr : ∀ r, row = some r → r < B ∨ ∃ o : Obj, W1.heap[r]? = some o ∧ o.isCells = true) : KeepsFrom B W W2 :=
  ⟨Nat.le_trans h.size hg.size, fun k o hB hk ho => by
    have h1 := h.same k o hB hk ho
    refine (hg.block k (Array.getElem?_eq_some_iff.1 h1).1 (fun e => ?_)).trans h1
    rcases hr k e.symm with h2 | ⟨o', h2, h3⟩
    · omega
    · rw [h1] at h2; cases h2; rw [ho] at h3; cases h3⟩
set_option maxRecDepth 100000 in
set_option maxHeartbeats 2000000 in
theorem TKeep_any (a : Nat → Addr) (v : Value) (l : EntL) (many : Int) (hb : ∀ e ∈ l, RcpB e.r) (hl : l.length ≤ 1000000) (w : World) (hv : RdT w w.heap.size v l) (hs : SomeS [1, 2, 3, 6, 7, 8] a w) :
    Calls Tryz.prog 11 #[v, .int .i64 many] w (KeepPost a l many w) := by
  obtain ⟨i0, hi, hz0, hz1, hz2⟩ := info_parts info_ent
  obtain ⟨E, hE, hv⟩ := hv
  obtain ⟨A, c, hvA, _⟩ := hv.form
  subst hvA
  have hEl : E.length ≤ 1000000 := by rw [← hE, List.length_map] at hl; exact hl
  have HE0 := Lib.hid hE
  have hb0 : Below w.heap.size w (w.alloc (.cells #[.int .i64 many] 3)) := (Below.refl _ w).alloc (Nat.le_refl _) _
  have hmy : (w.alloc (.cells #[.int .i64 many] 3)).cell? ⟨w.heap.size, 0, none⟩ = some (.int .i64 many) := by rw [World.cell?_alloc_at _ _ _ _ rfl]; rfl
  have hms : w.heap.size < (w.alloc (.cells #[.int .i64 many] 3)).heap.size := by simp
  have HVB := Lib.hid (fun w' (h : Below w.heap.size w w') => (hv.keep h (Nat.le_refl _) : RdE w' w.heap.size _ E))
  have HVT := Lib.hid (fun w' (h : Below w.heap.size w w') => (⟨E, hE, (hv.keep h (Nat.le_refl _)).more h.size⟩ : RdT w' w'.heap.size _ l))
  have HS := Lib.hid (fun w' (h : Below w.heap.size w w') => hs.below h)
  have HB0 := Lib.hid hb0
  have HMY := Lib.hid hmy
  have HMS := Lib.hid hms
  clear hE hv hs hb0 hmy hms
  refine callsIn_wide.1 (callsIn_of_wp_marks (n := 6) Tryz.func11 rfl trivial (wpIn_wide.2 ?_) rfl)
  simp only [Tryz.ntmps11, List.size_toArray, List.length_cons, List.length_nil, Nat.reduceAdd, Nat.reduceSub, Array.replicate_succ, Array.replicate_zero, List.push_toArray, List.append_toArray, List.nil_append, List.cons_append]
  go_wp2_with fail
  generalize hw0 : w.alloc (.cells #[.int .i64 many] 3) = w0 at *
  clear hw0
  refine (TCheck_any a _ l hb hl w0 (HVT.out _ HB0.out) (HS.out _ HB0.out)).mono ?_
  rintro e w1 ⟨r1, rfl, hev, hb1⟩
  have HB1 := Lib.hid (HB0.out.trans (hb1.mono HB0.out.size))
  have hm1 := (hb1.cell (p := ⟨w.heap.size, 0, none⟩) HMS.out).trans HMY.out
  have HM1 := Lib.hid hm1
  have hs1 : w.heap.size < w1.heap.size := Nat.lt_of_lt_of_le HMS.out hb1.size
  clear hb1
  generalize hF : trailFault l = F at *
  by_cases h0 : F.1 = 0
  · have HF := Lib.hid hF
    have hF2 : F = (0, -1) := by rw [← hF]; exact trailFault_two (by rw [hF]; exact h0)
    subst hF2
    obtain ⟨rfl, _⟩ := hev.nil rfl
    clear hF hev h0
    by_cases hmn : many < 0
    · have HE := Lib.hid (keep_neg (by rw [HF.out]) hmn)
      have s2 : w1.cell? ⟨1, 0, none⟩ = some (sval a 1) := HS.out _ HB1.out 1 (by decide)
      unfold sval at s2
      go_wp2
      go_quiet (fail)
      go_wp2
      refine ⟨.tuple #[.slice none 0 0, .iface 265 (.pointer (some (a 1)))], by simp [results, Tryz.results11, go_sem], ?_⟩
      exact ⟨_, _, rfl, by rw [HE.out]; exact EV.sent a _ 1 (by decide), by rw [HE.out]; exact RdT.nil _ _, below_drewN HB1.out _⟩
    · have HE := Lib.hid (keep_ok (by rw [HF.out]) hmn)
      have hmm := @run_makeMap Tryz.prog
      go_wp2_with fail
      refine (Back_any A E.length c _).mono ?_
      rintro e w6' ⟨rfl, rfl⟩
      clear hmm
      go_wp2
      have hmap0 := (((World.ownsMap_made (H := Unit) w1 Tryz.prog 9 (plainElem Tryz.prog 3)).alloc (.cells #[.map (some w1.heap.size)] 88)).alloc (.cells #[.slice none 0 0] 25)).alloc (.cells #[.slice A E.length c] 25)
      obtain ⟨g1, g2, g3, g4, g5, g6, g7⟩ := keep_made w1 A E.length c
      have hm6 := (g1.cell (p := ⟨w.heap.size, 0, none⟩) (by show w.heap.size < _; omega)).trans HM1.out
      have HB6 := Lib.hid (HB1.out.trans (g1.mono HB1.out.size))
      clear HM1 hm1
      generalize hw6 : (((w1.alloc (.map #[] 0)).alloc (.cells #[.map (some w1.heap.size)] 88)).alloc (.cells #[.slice none 0 0] 25)).alloc (.cells #[.slice A E.length c] 25) = w6 at *
      clear hw6
      generalize w1.heap.size = mb at *
      replace g2 := Lib.hid g2
      replace g3 := Lib.hid g3
      replace g4 := Lib.hid g4
      replace g5 := Lib.hid g5
      replace g6 := Lib.hid g6
      replace hm6 := Lib.hid hm6
      replace hmap0 := Lib.hid hmap0
      clear g7
      have hsq := Lib.hid (Back1_stopsS (fun k => k < w.heap.size ∨ k = mb + 1 + 1 + 1) w.heap.size 5 (by decide) (mb + 1 + 1 + 1) A c E w6 (by rw [g2.out]; omega) g6.out hEl (HVB.out _ HB6.out) HB6.out.size (fun k h => .inl h) (.inr rfl))
      have hws : w.heap.size < w6.heap.size := by rw [g2.out]; omega
      refine wpIn_wide.1 (wpIn_rangeFunc_ownH (n := 6) wide_round (by decide) (gf := 84) (lb := #[.pointer (some ⟨mb + 1 + 1 + 1, 0, none⟩)]) rfl trivial (enters_of Tryz.func84 (by kernel_rfl) rfl)
        hsq.out KpS.trans (fun W l o o' hl h _ _ => KpS.put (fun k hk => by rw [g2.out] at hl; rcases hk with hk | hk <;> omega)) (Below.refl _ _) (fun _ => rfl)
        (KI w w6.heap.size mb (mb + 1) w.heap.size (mb + 1 + 1) many E)
        (fun _ _ _ => False)
        (KI_own (Nat.le_of_lt hws) (by rw [g2.out]; omega) (by rw [g2.out]; omega))
        (fun _ _ _ _ _ hs _ _ => hs)
        ⟨HB6.out, g3.out, hm6.out, ⟨_, hmap0.out, ⟨_, rfl⟩, fun _ => rfl⟩, ⟨_, g4.out, g5.out, OwT2.nil _ _ _⟩, Nat.le_refl _⟩
        (fun k a' W => ∃ Bx, w6.heap.size ≤ Bx ∧ Cells5 Bx (.int .i64 (E[k.val]'k.isLt).1.day) (VT (E[k.val]'k.isLt).1.r.name) (.int .i64 (E[k.val]'k.isLt).1.r.len) (.int .u32 ((E[k.val]'k.isLt).1.r.print : Int)) (E[k.val]'k.isLt).2 W ∧ a' = { tmps := #[.slice A E.length c, .int .i64 many, undef, .pointer (some ⟨w.heap.size, 0, none⟩), .slice none 0 0, .nilIface, .nilIface, .pointer (some ⟨mb + 1, 0, none⟩), .pointer (some ⟨mb + 1 + 1, 0, none⟩), undef, .pointer (some ⟨Bx, 0, none⟩), .slice A E.length c, .nilIface, .nilIface, .bool false, undef, .int .i64 many, .bool (decide (many < 0)), undef, .map (some mb), .slice A E.length c, .func (.func 84) #[] #[.pointer (some ⟨mb + 1 + 1 + 1, 0, none⟩)], .int .i64 (k.val : Int), entV (E[k.val]'k.isLt), undef, undef, undef, undef, undef, undef, undef, undef, undef, undef, undef, undef, undef, undef, undef, undef, undef, undef, undef, undef, undef, undef, undef, undef, undef], defers := [] })
        (fun k a' s W W' row hs hg hr => by obtain ⟨Bx, h1, h2, h3⟩ := hs; exact ⟨Bx, h1, h2.own hg (fun r e => (hr r e).2), h3⟩)
        ?assign ?body ?done ?stop)
      case assign =>
        rintro l' pre k W K hKI hK
        obtain ⟨As, cs, hAs⟩ := ((HVB.out w6 HB6.out).2 _ (List.getElem_mem k.isLt)).slice
        unfold entV at hK ⊢
        generalize (E[k.val]'k.isLt).2 = SL at *
        subst hAs
        have hx5 := Box5.mk' W (.int .i64 (E[k.val]'k.isLt).1.day) (VT (E[k.val]'k.isLt).1.r.name) (.int .i64 (E[k.val]'k.isLt).1.r.len) (.int .u32 ((E[k.val]'k.isLt).1.r.print : Int)) (.slice As (E[k.val]'k.isLt).1.r.ids.length cs) 38
        have hsz := hKI.sz
        have hki := (KI_own (Nat.le_of_lt hws) (by rw [g2.out]; omega) (by rw [g2.out]; omega)) pre W _ none hKI (World.grownBy_alloc W (.cells #[.int .i64 (E[k.val]'k.isLt).1.day, VT (E[k.val]'k.isLt).1.r.name, .int .i64 (E[k.val]'k.isLt).1.r.len, .int .u32 ((E[k.val]'k.isLt).1.r.print : Int), .slice As (E[k.val]'k.isLt).1.r.ids.length cs] 38) none) (fun r e => by cases e)
        clear hKI
        gi_wp2
        exact hK _ _ ((KeepsOthers.alloc _ _).from _) ((KpS.refl _ _).gb (World.grownBy_alloc _ _ none) (fun q hq => ⟨by have := g2.out; rcases hq with hq | hq <;> omega, by simp⟩)) hki ⟨W.heap.size, hsz, ⟨hx5.c0, hx5.c1, hx5.c2, hx5.c3, hx5.c4⟩, rfl⟩
      case body =>
        rintro l' pre k a' W hl' _ hKI ⟨Bx, hBx, hX, rfl⟩ hlt
        obtain ⟨hbel, hmx, hmy, ⟨D, hmap, hism, hcnt⟩, ⟨vo, hvo, hvf, hout⟩, hszW⟩ := hKI
        have hgA : mb + 1 + 1 + 1 + 1 ≤ w6.heap.size := Nat.le_of_eq g2.out.symm
        have hgB : w6.heap.size ≤ mb + 1 + 1 + 1 + 1 := Nat.le_of_eq g2.out
        have hsl : RdI W W.heap.size (E[k.val]'k.isLt).2 (E[k.val]'k.isLt).1.r.ids := ((HVB.out W hbel).2 _ (List.getElem_mem k.isLt)).more hbel.size
        have hrb : RcpB (E[k.val]'k.isLt).1.r := hb _ (by rw [← HE0.out]; exact List.mem_map_of_mem (List.getElem_mem k.isLt))
        have hpm := pmE_snoc E pre k
        have hpl : (pmE E pre).length ≤ 1000000 := by unfold pmE; rw [List.length_map]; omega
        have hSL := fun w' (h : Below w.heap.size w w') => (HVB.out w' h).2 _ (List.getElem_mem k.isLt)
        generalize he0 : (E[k.val]'k.isLt).1 = e0 at *
        generalize hs0 : (E[k.val]'k.isLt).2 = s0 at *
        have hkey : keyOf Tryz.prog 9 (.string (bs e0.r.name)) = some (.string e0.r.name) := by
          have h := keyOf_string_mk (P := Tryz.prog) Tryz.underlying9 (s := bs e0.r.name) (by rw [bs_size]; have := hrb.n; unfold maxLen; omega)
          rw [bs_toList] at h
          exact h
        obtain ⟨cn, hcn⟩ : ∃ x : Nat, x = cntN e0.r.name (pmE E pre) := ⟨_, rfl⟩
        have hcl : cn ≤ 1000000 := by rw [hcn]; exact Nat.le_trans (cntN_le _ _) hpl
        have q0 : (0 : Int) ≤ (cn : Int) := by omega
        have q1 : (cn : Int) ≤ 1000000 := by omega
        have hwf : (Lit.int .i64 ((cn : Int) + 1)).wf = true := by simp [Lit.wf, IntKind.min, IntKind.max, IntKind.signed, IntKind.bits]; omega
        have hat0 := hcnt e0.r.name
        rw [← hcn] at hat0
        have HAT0 := Lib.hid hat0
        have HCNT := Lib.hid hcnt
        have HPM := Lib.hid hpm
        have HKEY := Lib.hid hkey
        have HMAP := Lib.hid hmap
        have HISM := Lib.hid hism
        have HOUT := Lib.hid hout
        have HBEL := Lib.hid hbel
        have HSL := Lib.hid hSL
        have HCN := Lib.hid hcn
        have HRB := Lib.hid hrb
        obtain ⟨c0, c1, c2, c3, c4⟩ := hX
        have X0 := Lib.hid (Cells5.mk c0 c1 c2 c3 c4)
        have MX := Lib.hid hmx
        have MY := Lib.hid hmy
        have VO := Lib.hid hvo
        have VF := Lib.hid hvf
        have hbxl : Bx < W.heap.size := World.block_lt_of_cell? W _ c0
        have HWF := Lib.hid hwf
        clear hat0 hcnt hpm hkey hmap hism hout hbel hsl hSL hcn hrb he0 hwf
        have hrm : ∀ r, some mb = some r → ∃ o : Obj, W.heap[r]? = some o ∧ o.isCells = false := fun r e => by
          injection e with e; subst e
          obtain ⟨es, ck, h, _⟩ := HMAP.out
          exact ⟨_, h, rfl⟩
        have HD2 : Hid (∀ nm : Bytes, (D.put (.string e0.r.name) (.lit (.int .i64 ((cn : Int) + 1)))).atKey (.string nm) (.lit (.int .i64 0)) = .lit (.int .i64 (cntN nm (pmE E (pre ++ [k])) : Nat))) := Lib.hid fun nm => by
          rw [HPM.out, cntN_snoc]
          by_cases hn : e0.r.name = nm
          · rw [if_pos hn, ← hn, atKey_put_same HISM.out (show WideAt.IsKeyLit (.string _) from trivial), ← HCN.out]; simp
          · rw [if_neg hn, Nat.add_zero, atKey_put_other (fun e => hn (Lit.string.inj e).symm), HCNT.out]
        have HAT2 := Lib.hid (atKey_put_same (k := Lit.string e0.r.name) HISM.out (show WideAt.IsKeyLit (.string _) from trivial) (.lit (.int .i64 ((cn : Int) + 1))) (.lit (.int .i64 0) : DataW Unit))
        have hpl2 : (pre ++ [k]).length = pre.length + 1 := by simp
        clear hvo hvf
        by_cases hlm : (cn : Int) + 1 ≤ many
        · gi_wp2_with (first | (gi_at_lookup; refine wpListIn_lookup_own_int _ rfl _ _ 88 rfl 9 3 .i64 lawSt Tryz.underlying88 Tryz.underlying3 (zeroSt _) mb pre.length D rfl HMAP.out _ (.string e0.r.name) rfl HKEY.out ?_; intro ca hat1 _; have hca : ca = (cn : Int) := lit_inj (hat1.symm.trans HAT0.out); subst hca; clear hat1) | ((gi_at_mapUpdate; refine wpListIn_mapUpdate_own _ rfl _ _ _ 88 rfl 9 3 lawSt Tryz.underlying88 (plainElem Tryz.prog 3) mb pre.length D rfl HMAP.out (by unfold maxLen; omega) _ _ (.string e0.r.name) rfl rfl HKEY.out (.lit (.int .i64 ((cn : Int) + 1))) [] (plainElem_int Tryz.underlying3 HWF.out) ?_; intro w2 hown2 hgr2; have HOWN2 := Lib.hid hown2; have HGR2 := Lib.hid hgr2; have x0 := (hgr2.cell_far ⟨Bx, 0, none⟩ hbxl (by simp; omega)).trans X0.out.c0; have x1 := (hgr2.cell_far ⟨Bx, 1, none⟩ hbxl (by simp; omega)).trans X0.out.c1; have x2 := (hgr2.cell_far ⟨Bx, 2, none⟩ hbxl (by simp; omega)).trans X0.out.c2; have x3 := (hgr2.cell_far ⟨Bx, 3, none⟩ hbxl (by simp; omega)).trans X0.out.c3; have x4 := (hgr2.cell_far ⟨Bx, 4, none⟩ hbxl (by simp; omega)).trans X0.out.c4; have mx2 := (hgr2.cell_far ⟨mb + 1, 0, none⟩ (by show mb + 1 < _; omega) (by simp)).trans MX.out; have my2 := (hgr2.cell_far ⟨w.heap.size, 0, none⟩ (by show w.heap.size < _; omega) (by simp; omega)).trans MY.out; clear c0 c1 c2 c3 c4 hmx hmy hown2 hgr2)) | (gi_at_lookup; refine wpListIn_lookup_own_int _ rfl _ _ 88 rfl 9 3 .i64 lawSt Tryz.underlying88 Tryz.underlying3 (zeroSt _) mb (pre.length + 1) _ rfl HOWN2.out _ (.string e0.r.name) rfl HKEY.out ?_; intro cb hat3 _; have hcb : cb = (cn : Int) + 1 := lit_inj (hat3.symm.trans HAT2.out); subst hcb; clear hat3))
          have X2 := Lib.hid (Cells5.mk x0 x1 x2 x3 x4)
          have MX2 := Lib.hid mx2
          have MY2 := Lib.hid my2
          have VO2 := Lib.hid ((HGR2.out.cell_far ⟨mb + 1 + 1, 0, none⟩ (by show mb + 1 + 1 < _; omega) (by simp; omega)).trans VO.out)
          have VF2 := Lib.hid ((HGR2.out.frozen_far ⟨mb + 1 + 1, 0, none⟩ (by show mb + 1 + 1 < _; omega) (by simp; omega)).trans VF.out)
          have hzw2 : W.heap.size ≤ w2.heap.size := HGR2.out.size
          have HO2 := Lib.hid (HOUT.out.ownF HGR2.out hrm)
          have HB2 := Lib.hid (HBEL.out.grown HGR2.out HBEL.out.size (fun r e => by injection e with e; omega))
          have hbx2 : Bx < w2.heap.size := by omega
          have hob2 : mb + 1 + 1 < w2.heap.size := by omega
          have KF2 : Hid (KeepsFrom w6.heap.size W w2) := Lib.hid (keepsF_gb (KeepsFrom.refl _ _) HGR2.out (fun r e => by injection e with e; left; omega))
          have KS2 : Hid (KpS (fun q => q < w.heap.size ∨ q = mb + 1 + 1 + 1) W w2) := Lib.hid ((KpS.refl _ _).gb HGR2.out (fun q hq => ⟨by rcases hq with hq | hq <;> omega, by simp; rcases hq with hq | hq <;> omega⟩))
          clear x0 x1 x2 x3 x4 mx2 my2
          have hlt' : (cntN e0.r.name (pmE E pre) : Int) < many := by rw [← HCN.out]; omega
          have HOB := Lib.hid (outB_yes hlt')
          obtain ⟨A3, u3, hv3⟩ := HO2.out.toT.slice
          subst hv3
          have hol : (outB many (pmE E pre)).length ≤ 1000000 := Nat.le_trans (outB_len _ _) hpl
          clear hlt'
          have hS0 : Below w2.heap.size w2 w2.drew := (Below.refl _ _).drew
          refine round_S (fun w' => Below w2.heap.size w2 w') 8 (by kernel_rfl) (by kernel_rfl) (by kernel_rfl) (fun _ _ h => h) ?_
          refine take_S 0 rfl (by kernel_rfl) (by kernel_rfl) hS0 (fun w' hS => by have c0 := (hS.cell (p := ⟨Bx, 0, none⟩) hbx2).trans X2.out.c0; have c1 := (hS.cell (p := ⟨Bx, 1, none⟩) hbx2).trans X2.out.c1; have c2 := (hS.cell (p := ⟨Bx, 2, none⟩) hbx2).trans X2.out.c2; have c3 := (hS.cell (p := ⟨Bx, 3, none⟩) hbx2).trans X2.out.c3; have c4 := (hS.cell (p := ⟨Bx, 4, none⟩) hbx2).trans X2.out.c4; have co := (hS.cell (p := ⟨mb + 1 + 1, 0, none⟩) hob2).trans VO2.out; go_simp; rfl) ?_
          refine take_S 1 rfl (by kernel_rfl) (by kernel_rfl) hS0 (fun w' hS => by have c0 := (hS.cell (p := ⟨Bx, 0, none⟩) hbx2).trans X2.out.c0; have c1 := (hS.cell (p := ⟨Bx, 1, none⟩) hbx2).trans X2.out.c1; have c2 := (hS.cell (p := ⟨Bx, 2, none⟩) hbx2).trans X2.out.c2; have c3 := (hS.cell (p := ⟨Bx, 3, none⟩) hbx2).trans X2.out.c3; have c4 := (hS.cell (p := ⟨Bx, 4, none⟩) hbx2).trans X2.out.c4; have co := (hS.cell (p := ⟨mb + 1 + 1, 0, none⟩) hob2).trans VO2.out; go_simp; rfl) ?_
          refine take_S 2 rfl (by kernel_rfl) (by kernel_rfl) hS0 (fun w' hS => by have c0 := (hS.cell (p := ⟨Bx, 0, none⟩) hbx2).trans X2.out.c0; have c1 := (hS.cell (p := ⟨Bx, 1, none⟩) hbx2).trans X2.out.c1; have c2 := (hS.cell (p := ⟨Bx, 2, none⟩) hbx2).trans X2.out.c2; have c3 := (hS.cell (p := ⟨Bx, 3, none⟩) hbx2).trans X2.out.c3; have c4 := (hS.cell (p := ⟨Bx, 4, none⟩) hbx2).trans X2.out.c4; have co := (hS.cell (p := ⟨mb + 1 + 1, 0, none⟩) hob2).trans VO2.out; go_simp; rfl) ?_
          refine take_S 3 rfl (by kernel_rfl) (by kernel_rfl) hS0 (fun w' hS => by have c0 := (hS.cell (p := ⟨Bx, 0, none⟩) hbx2).trans X2.out.c0; have c1 := (hS.cell (p := ⟨Bx, 1, none⟩) hbx2).trans X2.out.c1; have c2 := (hS.cell (p := ⟨Bx, 2, none⟩) hbx2).trans X2.out.c2; have c3 := (hS.cell (p := ⟨Bx, 3, none⟩) hbx2).trans X2.out.c3; have c4 := (hS.cell (p := ⟨Bx, 4, none⟩) hbx2).trans X2.out.c4; have co := (hS.cell (p := ⟨mb + 1 + 1, 0, none⟩) hob2).trans VO2.out; go_simp; rfl) ?_
          refine take_S 4 rfl (by kernel_rfl) (by kernel_rfl) hS0 (fun w' hS => by have c0 := (hS.cell (p := ⟨Bx, 0, none⟩) hbx2).trans X2.out.c0; have c1 := (hS.cell (p := ⟨Bx, 1, none⟩) hbx2).trans X2.out.c1; have c2 := (hS.cell (p := ⟨Bx, 2, none⟩) hbx2).trans X2.out.c2; have c3 := (hS.cell (p := ⟨Bx, 3, none⟩) hbx2).trans X2.out.c3; have c4 := (hS.cell (p := ⟨Bx, 4, none⟩) hbx2).trans X2.out.c4; have co := (hS.cell (p := ⟨mb + 1 + 1, 0, none⟩) hob2).trans VO2.out; go_simp; rfl) ?_
          refine carry_S 5 rfl (by kernel_rfl) (by decide) (by kernel_rfl) (fun K hK => ?_)
          go_simp
          refine (TCopied_any (rcpAgg e0.r s0) e0.r HRB.out.c w2.drew ⟨_, rfl, (HSL.out _ (HB2.out.trans (hS0.mono HB2.out.size))).more (HB2.out.trans (hS0.mono HB2.out.size)).size⟩).mono ?_
          rintro e w4 ⟨v4, rfl, ⟨sl4, rfl, hr4⟩, hb4⟩
          obtain ⟨A4, u4, hsl4⟩ := hr4.rd.slice
          subst hsl4
          have hS4 : Below w2.heap.size w2 w4 := hS0.trans (hb4.mono hS0.size)
          refine hK _ _ hS4 ?_
          clear hK K hb4
          try simp only [Act.put, List.getElem_toArray, List.getElem_cons_succ, List.getElem_cons_zero, List.setIfInBounds_toArray, List.set_cons_zero, List.set_cons_succ]
          refine take_S 6 rfl (by kernel_rfl) (by kernel_rfl) hS4 (fun w' hS => by go_simp; rfl) ?_
          try simp only [Act.put, List.getElem_toArray, List.getElem_cons_succ, List.getElem_cons_zero, List.setIfInBounds_toArray, List.set_cons_zero, List.set_cons_succ]
          refine carry_S 7 rfl (by kernel_rfl) (by decide) (by kernel_rfl) (fun K hK => ?_)
          go_simp
          have haw : Below w4.heap.size w4 (w4.alloc (.cells #[.int .i64 e0.day, VT e0.r.name, .int .i64 e0.r.len, .int .u32 (e0.r.print : Int), .slice A4 e0.r.ids.length u4] 38)) := (Below.refl _ _).alloc (Nat.le_refl _) _
          have hS5 : Below w2.heap.size w2 (w4.alloc (.cells #[.int .i64 e0.day, VT e0.r.name, .int .i64 e0.r.len, .int .u32 (e0.r.print : Int), .slice A4 e0.r.ids.length u4] 38)) := hS4.trans (haw.mono hS4.size)
          have HO5 := Lib.hid (HO2.out.below hS5)
          have HN5 := Lib.hid (NewE.mk' w4 (e0, .slice A4 e0.r.ids.length u4) 38)
          have hlo : w6.heap.size ≤ w2.drew.heap.size := Nat.le_trans hszW (Nat.le_trans hzw2 hS0.size)
          have hr5 := (hr4.below haw (Nat.le_refl _)).wide hlo haw.size
          have hfar : ∀ q, (Value.slice A3 (outB many (pmE E pre)).length u3).ownBlock = some q → FarI (.slice A4 e0.r.ids.length u4) e0.r.ids q := fun q hq => by
            obtain ⟨E', hE', ho', _⟩ := HO2.out
            have := own_ltB ho' hq
            exact hr4.farB (Nat.lt_of_lt_of_le this hS0.size)
          have hvo5 := (hS5.cell (p := ⟨mb + 1 + 1, 0, none⟩) hob2).trans VO2.out
          have hvf5 := (hS5.frozen (p := ⟨mb + 1 + 1, 0, none⟩) hob2).trans VF2.out
          have MX5 := Lib.hid ((hS5.cell (p := ⟨mb + 1, 0, none⟩) (by show mb + 1 < _; omega)).trans MX2.out)
          have MY5 := Lib.hid ((hS5.cell (p := ⟨w.heap.size, 0, none⟩) (by show w.heap.size < _; omega)).trans MY2.out)
          have HMP5 := Lib.hid (HOWN2.out.kept (row := none) (gb_belowX hS5) (by simp))
          have HB5 := Lib.hid (HB2.out.trans (hS5.mono HB2.out.size))
          have HS5 := Lib.hid hS5
          refine hK _ _ hS5 (forced_S (by kernel_rfl) ?_)
          clear hK K
          try simp only [Act.put, List.getElem_toArray, List.getElem_cons_succ, List.getElem_cons_zero, List.setIfInBounds_toArray, List.set_cons_zero, List.set_cons_succ]
          simp only [List.drop_succ_cons, List.drop_zero]
          obtain ⟨E', hE', ho', hx'⟩ := HO5.out
          have hEl' : E'.length = (outB many (pmE E pre)).length := by rw [← hE', List.length_map]
          have ho'' := ho'
          rw [hEl'] at ho''
          have hz5 : w6.heap.size ≤ (w4.alloc (.cells #[.int .i64 e0.day, VT e0.r.name, .int .i64 e0.r.len, .int .u32 (e0.r.print : Int), .slice A4 e0.r.ids.length u4] 38)).heap.size := Nat.le_trans hlo (Nat.le_trans (Nat.le_refl _) hS5.size)
          generalize hw5 : w4.alloc (.cells #[.int .i64 e0.day, VT e0.r.name, .int .i64 e0.r.len, .int .u32 (e0.r.print : Int), .slice A4 e0.r.ids.length u4] 38) = w5 at *
          generalize w4.heap.size = b5 at *
          clear hw5 hr4 haw hS4 hS5
          go_wp2_with (first | (at_builtin; go_loud (refine wpList_append_own_at _ rfl (.tmp 37) (.tmp 44) 25 rfl w6.heap.size 38 i0 (.agg #[.int .i64 0, .string ByteArray.empty, .int .i64 0, .int .u32 0, .slice none 0 0]) 5 64 Tryz.underlying25 hi hz0 hz1 hz2 rfl (by decide) (.slice A3 (outB many (pmE E pre)).length u3) (outB many (pmE E pre)).length (entRow E') rfl ho'' ⟨b5, 0, none⟩ 1 1 (entCells (e0, .slice A4 e0.r.ids.length u4)) rfl rfl HN5.out (entCells_one hr5.rd) (by unfold maxLen; omega) (by omega) hz5 ?_; intro v7 w7 hown7 hg7 _ hat7; have hob7 := (hg7.cell_far ⟨mb + 1 + 1, 0, none⟩ (World.block_lt_of_cell? _ _ hvo5) (own_far ho'' (show mb + 1 + 1 < w6.heap.size by omega))).trans hvo5; have hof7 := (hg7.frozen_far ⟨mb + 1 + 1, 0, none⟩ (World.block_lt_of_cell? _ _ hvo5) (own_far ho'' (show mb + 1 + 1 < w6.heap.size by omega))).trans hvf5; obtain ⟨A7, u7, hv7⟩ := own_formI hown7; subst hv7)) | fail)
          have HO7 := OwT2.snoc hE' ho'' hEl'.symm hx' hr5 hfar hown7 hg7 hat7
          have hge : ∀ q, (Value.slice A3 (outB many (pmE E pre)).length u3).ownBlock = some q → w6.heap.size ≤ q := fun q hq => own_ge ho'' hq
          have hset : w7.grownBy (w7.setCell ⟨mb + 1 + 1, 0, none⟩ (.slice A7 ((outB many (pmE E pre)).length + 1) u7)) (some (mb + 1 + 1)) := gb_set (gb_rf _ _) 0 _
          have hcl : ∀ q, (Value.slice A3 (outB many (pmE E pre)).length u3).ownBlock = some q → ∃ o : Obj, w5.heap[q]? = some o ∧ o.isCells = true := fun q hq => by
            rcases ho''.2 with ⟨e0', _⟩ | ⟨g, cap, cur, e0', _, hh, _⟩
            · rw [e0'] at hq; cases hq
            · rw [e0'] at hq; cases hq; exact ⟨_, hh, rfl⟩
          have KF5 := keepsF_gb KF2.out (gb_belowX HS5.out) (fun r (e : none = some r) => by cases e)
          have KF7 := keepsF_gb KF5 hg7 (fun r e => .inr (hcl r e))
          have KS5 := KS2.out.gb (gb_belowX HS5.out) (fun q hq => ⟨by rcases hq with hq | hq <;> omega, by simp⟩)
          have KS7 := KS5.gb hg7 (fun q hq => ⟨by rcases hq with hq | hq <;> omega, fun e => by have := hge q e.symm; rcases hq with hq | hq <;> omega⟩)
          have KS8 := KS7.gb hset (fun q hq => ⟨by have := hg7.size; rcases hq with hq | hq <;> omega, by simp; rcases hq with hq | hq <;> omega⟩)
          refine ⟨keepsF_set KF7 (by omega) _, KS8, ⟨?_, ?_, ?_, ⟨_, ?_, IsMap.put HISM.out _ _, HD2.out⟩, ⟨_, World.cell?_setCell_same _ _ _ hob7, by rw [World.frozen?_setCell]; exact hof7, ?_⟩, ?_⟩⟩
          · exact (HB5.out.grown hg7 HB5.out.size (fun r e => Nat.le_trans (Nat.le_of_lt hws) (hge r e))).setCell (p := ⟨mb + 1 + 1, 0, none⟩) (by show w.heap.size ≤ mb + 1 + 1; omega) _
          · exact (World.cell?_setCell_other _ _ _ _ (by simp)).trans ((hg7.cell_far ⟨mb + 1, 0, none⟩ (World.block_lt_of_cell? _ _ MX5.out) (own_far ho'' (show mb + 1 < w6.heap.size by omega))).trans MX5.out)
          · exact (World.cell?_setCell_other _ _ _ _ (fun e => by injection e with e; omega)).trans ((hg7.cell_far ⟨w.heap.size, 0, none⟩ (World.block_lt_of_cell? _ _ MY5.out) (own_far ho'' (show w.heap.size < w6.heap.size by omega))).trans MY5.out)
          · rw [hpl2]
            exact (HMP5.out.kept hg7 (own_far ho'' (show mb < w6.heap.size by omega))).kept hset (fun e => by injection e with e; omega)
          · rw [HPM.out, HOB.out]; exact HO7.set (by omega)
          · exact Nat.le_trans hz5 (Nat.le_trans hg7.size hset.size)
        · gi_wp2_with (first | (gi_at_lookup; refine wpListIn_lookup_own_int _ rfl _ _ 88 rfl 9 3 .i64 lawSt Tryz.underlying88 Tryz.underlying3 (zeroSt _) mb pre.length D rfl HMAP.out _ (.string e0.r.name) rfl HKEY.out ?_; intro ca hat1 _; have hca : ca = (cn : Int) := lit_inj (hat1.symm.trans HAT0.out); subst hca; clear hat1) | ((gi_at_mapUpdate; refine wpListIn_mapUpdate_own _ rfl _ _ _ 88 rfl 9 3 lawSt Tryz.underlying88 (plainElem Tryz.prog 3) mb pre.length D rfl HMAP.out (by unfold maxLen; omega) _ _ (.string e0.r.name) rfl rfl HKEY.out (.lit (.int .i64 ((cn : Int) + 1))) [] (plainElem_int Tryz.underlying3 HWF.out) ?_; intro w2 hown2 hgr2; have HOWN2 := Lib.hid hown2; have HGR2 := Lib.hid hgr2; have x0 := (hgr2.cell_far ⟨Bx, 0, none⟩ hbxl (by simp; omega)).trans X0.out.c0; have x1 := (hgr2.cell_far ⟨Bx, 1, none⟩ hbxl (by simp; omega)).trans X0.out.c1; have x2 := (hgr2.cell_far ⟨Bx, 2, none⟩ hbxl (by simp; omega)).trans X0.out.c2; have x3 := (hgr2.cell_far ⟨Bx, 3, none⟩ hbxl (by simp; omega)).trans X0.out.c3; have x4 := (hgr2.cell_far ⟨Bx, 4, none⟩ hbxl (by simp; omega)).trans X0.out.c4; have mx2 := (hgr2.cell_far ⟨mb + 1, 0, none⟩ (by show mb + 1 < _; omega) (by simp)).trans MX.out; have my2 := (hgr2.cell_far ⟨w.heap.size, 0, none⟩ (by show w.heap.size < _; omega) (by simp; omega)).trans MY.out; clear c0 c1 c2 c3 c4 hmx hmy hown2 hgr2)) | (gi_at_lookup; refine wpListIn_lookup_own_int _ rfl _ _ 88 rfl 9 3 .i64 lawSt Tryz.underlying88 Tryz.underlying3 (zeroSt _) mb (pre.length + 1) _ rfl HOWN2.out _ (.string e0.r.name) rfl HKEY.out ?_; intro cb hat3 _; have hcb : cb = (cn : Int) + 1 := lit_inj (hat3.symm.trans HAT2.out); subst hcb; clear hat3))
          have X2 := Lib.hid (Cells5.mk x0 x1 x2 x3 x4)
          have MX2 := Lib.hid mx2
          have MY2 := Lib.hid my2
          have VO2 := Lib.hid ((HGR2.out.cell_far ⟨mb + 1 + 1, 0, none⟩ (by show mb + 1 + 1 < _; omega) (by simp; omega)).trans VO.out)
          have VF2 := Lib.hid ((HGR2.out.frozen_far ⟨mb + 1 + 1, 0, none⟩ (by show mb + 1 + 1 < _; omega) (by simp; omega)).trans VF.out)
          have hzw2 : W.heap.size ≤ w2.heap.size := HGR2.out.size
          have HO2 := Lib.hid (HOUT.out.ownF HGR2.out hrm)
          have HB2 := Lib.hid (HBEL.out.grown HGR2.out HBEL.out.size (fun r e => by injection e with e; omega))
          have hbx2 : Bx < w2.heap.size := by omega
          have hob2 : mb + 1 + 1 < w2.heap.size := by omega
          have KF2 : Hid (KeepsFrom w6.heap.size W w2) := Lib.hid (keepsF_gb (KeepsFrom.refl _ _) HGR2.out (fun r e => by injection e with e; left; omega))
          have KS2 : Hid (KpS (fun q => q < w.heap.size ∨ q = mb + 1 + 1 + 1) W w2) := Lib.hid ((KpS.refl _ _).gb HGR2.out (fun q hq => ⟨by rcases hq with hq | hq <;> omega, by simp; rcases hq with hq | hq <;> omega⟩))
          clear x0 x1 x2 x3 x4 mx2 my2
          have hlt' : ¬ (cntN e0.r.name (pmE E pre) : Int) < many := by rw [← HCN.out]; omega
          exact ⟨KF2.out, KS2.out, HB2.out, MX2.out, MY2.out, ⟨_, by rw [hpl2]; exact HOWN2.out, IsMap.put HISM.out _ _, HD2.out⟩, ⟨_, VO2.out, VF2.out, by rw [HPM.out, outB_no hlt']; exact HO2.out⟩, Nat.le_trans hszW hzw2⟩
      case done =>
        rintro D ys W hD hys hKI hK
        subst hys
        obtain ⟨hbel, _, _, _, ⟨vo, hvo, hvf, hout⟩, _⟩ := hKI
        have HT := Lib.hid hout.toT
        obtain ⟨A8, u8, hv8⟩ := hout.toT.slice
        subst hv8
        have hlen : (outB many (pmE E (backF E.length))).length ≤ 1000000 := Nat.le_trans (outB_len _ _) (by unfold pmE; rw [List.length_map, backF_length]; exact hEl)
        have HREV := Lib.hid (TRev_any w6.heap.size _ _ W hout.toT hlen)
        have hall : (outB many (pmE E (backF E.length))).reverse = keepL many l := by unfold pmE; rw [outB_all, HE0.out]
        have HALL := Lib.hid hall
        have HK := Lib.hid hK
        have HD := Lib.hid hD
        have HBL := Lib.hid hbel
        have hge : ∀ q, (Value.slice A8 (outB many (pmE E (backF E.length))).length u8).ownBlock = some q → w6.heap.size ≤ q := fun q hq => by obtain ⟨_, _, ho, _⟩ := hout.toT; exact own_ge ho hq
        have HGE := Lib.hid hge
        have hcl : ∀ q, (Value.slice A8 (outB many (pmE E (backF E.length))).length u8).ownBlock = some q → ∃ o : Obj, W.heap[q]? = some o ∧ o.isCells = true := fun q hq => by
          obtain ⟨_, _, ho, _⟩ := hout.toT
          rcases ho.2 with ⟨e0, _⟩ | ⟨g, cap, cur, e0, _, hh, _⟩
          · rw [e0] at hq; cases hq
          · rw [e0] at hq; cases hq; exact ⟨_, hh, rfl⟩
        have HCL := Lib.hid hcl
        have HOB := Lib.hid hvo
        replace hws := Lib.hid hws
        clear hbel hout hlen hall hK hD hge hcl hvf
        go_wp2_with fail
        refine HREV.out.mono ?_
        rintro e w9 ⟨rfl, hO9, hg9⟩
        have hobB : mb + 1 + 1 < w6.heap.size := by rw [g2.out]; omega
        have ho9 : w9.cell? ⟨mb + 1 + 1, 0, none⟩ = some (.slice A8 (outB many (pmE E (backF E.length))).length u8) := (hg9.cell_far ⟨mb + 1 + 1, 0, none⟩ (World.block_lt_of_cell? W _ HOB.out) (fun e => by have h1 := HGE.out _ e.symm; have h2 : w6.heap.size ≤ mb + 1 + 1 := h1; omega)).trans HOB.out
        have hk9 : w9.heap[D]? = some (.deferred (some [])) := (hg9.block D (Array.getElem?_eq_some_iff.1 HK.out).1 (fun e => by
          obtain ⟨o, h1, h2⟩ := HCL.out D e.symm
          rw [HK.out] at h1; cases h1; cases h2)).trans HK.out
        have HB9 := Lib.hid (HBL.out.grown hg9 HBL.out.size (fun q hq => Nat.le_trans (Nat.le_of_lt hws.out) (HGE.out q hq)))
        rw [HALL.out] at hO9
        have HO9 := Lib.hid hO9
        have HK9 := Lib.hid hk9
        clear hO9 hg9 hk9
        go_wp2
        refine leave_mark (.tuple #[.slice A8 (outB many (pmE E (backF E.length))).length u8, .nilIface]) HK9.out (fun W' hc => by simp [results, Tryz.results11, go_sem]) ?_
        have hg := grownBy_putObj' w9 D (.deferred none)
        have hr := put_own (o := .deferred none) HK9.out
        exact ⟨_, _, rfl, by rw [HE.out]; exact EV.none a _, by rw [HE.out]; exact (HO9.out.ownF hg hr).rd, HB9.out.grown hg HB9.out.size (fun r e => by injection e with e; subst e; exact Nat.le_trans (Nat.le_of_lt hws.out) HD.out)⟩
      case stop =>
        rintro D c' pre W _ _ h _
        exact h.elim
  · have HE := Lib.hid (keep_fault (many := many) (by rw [hF]; exact h0))
    obtain ⟨T, p, hr1⟩ := hev.some h0
    subst hr1
    have HEV := Lib.hid hev
    clear hev h0
    go_wp2
    refine ⟨.tuple #[.slice none 0 0, .iface T p], by simp [results, Tryz.results11, go_sem], ?_⟩
    exact ⟨_, _, rfl, by rw [HE.out, hF]; exact HEV.out, by rw [HE.out]; exact RdT.nil _ _, HB1.out⟩
end Go.Proofs.YtbokckjlgjnnjaaGreatDoor

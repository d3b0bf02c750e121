/- A node by what it is and the blocks that it stands on: Drop, Sweep, Names; a node beside two rows of texts. Conditions: as named. -/
import Derived.Test.YtpanoplcamdnkaaGreatDoorNod2
import Derived.Test.YtpanoplcamdnkaaGreatDoorNdD
import Derived.Test.YtpanoplcamdnkaaGreatDoorNdS
namespace Go.Proofs.YtpanoplcamdnkaaGreatDoor
open Go.RowKit Go.Lib Go.Maps Go.WideMaps

theorem Node.dropC (a : Nat → Addr) {n : Nat} {P : PNode} {f : Foot} (hP : NodeOk P) (nm : Bytes) (hn : StrOk nm) (w : World) (h : Node n P f w) (hs : SomeS [4, 10] a w) :
    Calls Tryz.prog 13 #[.pointer (some ⟨n, 0, none⟩), .string (bs nm)] w fun e w' => ∃ r, e = .returned r ∧ ES a r (dropN nm P).2 ∧ NodeTo n f (dropN nm P).1 w w' := by
  obtain ⟨fm, bm, F, B, ho, rfl, rfl⟩ := h.at
  exact (NdDrop_any a n fm bm F B hP nm hn w ho hs).mono fun e w' ⟨r, f', h1, h2, h3, h4, h5⟩ => ⟨r, h1, h2, f', h3, h4, h5⟩
theorem Node.sweepC {n : Nat} {P : PNode} {f : Foot} (hP : NodeOk P) (w : World) (h : Node n P f w) :
    Calls Tryz.prog 15 #[.pointer (some ⟨n, 0, none⟩)] w fun e w' => e = .returned (.int .i64 (sizeN P - sizeN (sweepN P))) ∧ NodeTo n f (sweepN P) w w' := by
  obtain ⟨fm, bm, F, B, ho, rfl, rfl⟩ := h.at
  exact (NdSweep_any n fm bm F B hP w ho).mono fun e w' ⟨f', h1, h3, h4, h5⟩ => ⟨h1, f', h3, h4, h5⟩
theorem Node.namesC {n : Nat} {P : PNode} {f : Foot} (hP : NodeOk P) (w : World) (h : Node n P f w) :
    Calls Tryz.prog 17 #[.pointer (some ⟨n, 0, none⟩)] w fun e w' => ∃ v, e = .returned v ∧ w'.ownsRow w.heap.size 9 1 v (namesN P).length ((namesN P).map VT) ∧ Below w.heap.size w w' := by
  obtain ⟨fm, bm, F, B, ho, rfl, rfl⟩ := h.at
  exact NdNames_any n fm bm F B hP w ho
theorem own_ltN {w : World} {base n size g : Nat} {e : TypeId} {v : Value} {xs : List Value} (h : w.ownsRow base e size v n xs) (hg : v.ownBlock = some g) : g < w.heap.size := by
  rcases h.2 with ⟨rfl, _⟩ | ⟨g', cap, cur, rfl, _, hh, _⟩
  · cases hg
  · injection hg with hg
    have hg : g' = g := hg
    subst hg
    exact (Array.getElem?_eq_some_iff.1 hh).1
theorem own_frs {w w' : World} {T : Nat → Prop} {base n size : Nat} {e : TypeId} {v : Value} {xs : List Value} (h : w.ownsRow base e size v n xs) (hg : FrS T w w') (hne : ∀ g, v.ownBlock = some g → ¬ T g) : w'.ownsRow base e size v n xs := by
  refine ⟨h.1, ?_⟩
  rcases h.2 with h1 | ⟨g, cap, cur, hv, hgb, hh, h3⟩
  · exact .inl h1
  · exact .inr ⟨g, cap, cur, hv, hgb, (hg.block g (Array.getElem?_eq_some_iff.1 hh).1 (hne g (by rw [hv]; rfl))).trans hh, h3⟩
/-- a node, and two rows of texts, apart -/
structure KM (base n b7 : Nat) (P : PNode) (f : Foot) (v7 : Value) (m7 : Nat) (A : List Bytes) (v8 : Value) (m8 : Nat) (C : List Bytes) (w0 w : World) : Prop where
  nin : NIn base n P f w0 w
  r7 : w.ownsRow b7 9 1 v7 m7 (A.map VT)
  r8 : w.ownsRow b7 9 1 v8 m8 (C.map VT)
  a7 : ∀ g, v7.ownBlock = some g → ¬ f.S g ∧ ¬ f.R g
  a8 : ∀ g, v8.ownBlock = some g → ¬ f.S g ∧ ¬ f.R g
  ap : ∀ g, v7.ownBlock = some g → v8.ownBlock ≠ some g
  hb : base ≤ b7
  hz : b7 ≤ w.heap.size
section
variable {base n b7 m7 m8 : Nat} {P P' : PNode} {f : Foot} {v7 v8 v' : Value} {A C : List Bytes} {w0 w w' : World}
theorem KM.below (h : KM base n b7 P f v7 m7 A v8 m8 C w0 w) (hb : Below w.heap.size w w') : KM base n b7 P f v7 m7 A v8 m8 C w0 w' :=
  ⟨h.nin.below hb, own_belowI h.r7 hb, own_belowI h.r8 hb, h.a7, h.a8, h.ap, h.hb, Nat.le_trans h.hz hb.size⟩
theorem KM.to (h : KM base n b7 P f v7 m7 A v8 m8 C w0 w) (ht : NodeTo n f P' w w') : ∃ f', KM base n b7 P' f' v7 m7 A v8 m8 C w0 w' := by
  obtain ⟨f', h1, h2, h3⟩ := ht
  have far : ∀ {v : Value} {m : Nat} {xs : List Value}, w.ownsRow b7 9 1 v m xs → (∀ g, v.ownBlock = some g → ¬ f.S g ∧ ¬ f.R g) → ∀ g, v.ownBlock = some g → ¬ f'.S g ∧ ¬ f'.R g := fun {v m xs} ho ha g hg =>
    ⟨fun hs => ((h3 g).1 hs).elim (ha g hg).1 (fun hB => by have := own_ltN ho hg; omega), fun hs => ((h3 g).2 hs).elim (ha g hg).2 (fun hB => by have := own_ltN ho hg; omega)⟩
  exact ⟨f', ⟨h1, fun k hk => ((h3 k).1 hk).elim (h.nin.ge k) (fun hB => Nat.le_trans h.nin.sz hB), h2.below h.nin.bel h.nin.sz h.nin.ge, Nat.le_trans h.nin.sz h2.size⟩,
    own_frs h.r7 h2 (fun g hg => (h.a7 g hg).1), own_frs h.r8 h2 (fun g hg => (h.a8 g hg).1), far h.r7 h.a7, far h.r8 h.a8, h.ap, h.hb, Nat.le_trans h.hz h2.size⟩
theorem KM.app7 {x : Bytes} (h : KM base n b7 P f v7 m7 A v8 m8 C w0 w) (ho : w'.ownsRow b7 9 1 v' (m7 + 1) (A.map VT ++ [VT x])) (hg : w.grownBy w' v7.ownBlock) (ha : v'.ownBlock = v7.ownBlock ∨ v'.ownBlock = some w.heap.size) : KM base n b7 P f v' (m7 + 1) (A ++ [x]) v8 m8 C w0 w' := by
  have hn : Node n P f w' := h.nin.node.keep (T := fun k => v7.ownBlock = some k) ⟨hg.os, hg.tape, hg.output, hg.size, fun k hk hne => hg.block k hk (fun e => hne e.symm)⟩ (fun k hk e => hk.elim (h.a7 k e).1 (h.a7 k e).2)
  refine ⟨⟨hn, h.nin.ge, h.nin.bel.grown hg h.nin.sz (fun k e => Nat.le_trans h.hb (own_ge h.r7 e)), Nat.le_trans h.nin.sz hg.size⟩, by rw [List.map_append]; exact ho, own_gbN h.r8 hg (fun g e1 e2 => h.ap g e2 e1), fun g e => ?_, h.a8, fun g e e8 => ?_, h.hb, Nat.le_trans h.hz hg.size⟩
  · rcases ha with ha | ha
    · exact h.a7 g (ha ▸ e)
    · rw [ha] at e
      injection e with e
      subst e
      exact ⟨fun hs => by have := h.nin.node.lt _ (.inl hs); omega, fun hs => by have := h.nin.node.lt _ (.inr hs); omega⟩
  · rcases ha with ha | ha
    · exact h.ap g (ha ▸ e) e8
    · rw [ha] at e
      injection e with e
      subst e
      have := own_ltN h.r8 e8
      omega
theorem KM.app8 {x : Bytes} (h : KM base n b7 P f v7 m7 A v8 m8 C w0 w) (ho : w'.ownsRow b7 9 1 v' (m8 + 1) (C.map VT ++ [VT x])) (hg : w.grownBy w' v8.ownBlock) (ha : v'.ownBlock = v8.ownBlock ∨ v'.ownBlock = some w.heap.size) : KM base n b7 P f v7 m7 A v' (m8 + 1) (C ++ [x]) w0 w' := by
  have hn : Node n P f w' := h.nin.node.keep (T := fun k => v8.ownBlock = some k) ⟨hg.os, hg.tape, hg.output, hg.size, fun k hk hne => hg.block k hk (fun e => hne e.symm)⟩ (fun k hk e => hk.elim (h.a8 k e).1 (h.a8 k e).2)
  refine ⟨⟨hn, h.nin.ge, h.nin.bel.grown hg h.nin.sz (fun k e => Nat.le_trans h.hb (own_ge h.r8 e)), Nat.le_trans h.nin.sz hg.size⟩, own_gbN h.r7 hg (fun g e1 e2 => h.ap g e1 e2), by rw [List.map_append]; exact ho, h.a7, fun g e => ?_, fun g e7 e => ?_, h.hb, Nat.le_trans h.hz hg.size⟩
  · rcases ha with ha | ha
    · exact h.a8 g (ha ▸ e)
    · rw [ha] at e
      injection e with e
      subst e
      exact ⟨fun hs => by have := h.nin.node.lt _ (.inl hs); omega, fun hs => by have := h.nin.node.lt _ (.inr hs); omega⟩
  · rcases ha with ha | ha
    · exact h.ap g e7 (ha ▸ e)
    · rw [ha] at e
      injection e with e
      subst e
      have := own_ltN h.r7 e7
      omega
theorem KM.swap {bq m : Nat} {vx vy : Value} {X Y : List Bytes} (h : KM base n b7 P f v7 m7 A v8 m8 C w0 w) (hl : f.lt bq) (hbq : base ≤ bq) (hzq : bq ≤ w.heap.size) (hx : w.ownsRow bq 9 1 vx m (X.map VT)) (hy : w.ownsRow bq 9 1 vy m (Y.map VT)) (hap : ∀ g, vx.ownBlock = some g → vy.ownBlock ≠ some g) :
    KM base n bq P f vx m X vy m Y w0 w :=
  ⟨h.nin, hx, hy, fun g e => ⟨fun hs => by have := hl g (.inl hs); have := own_ge hx e; omega, fun hs => by have := hl g (.inr hs); have := own_ge hx e; omega⟩,
    fun g e => ⟨fun hs => by have := hl g (.inl hs); have := own_ge hy e; omega, fun hs => by have := hl g (.inr hs); have := own_ge hy e; omega⟩, hap, hbq, hzq⟩
theorem KM.at7 {m c : Nat} {Ad : Option Addr} (h : KM base n b7 P f (.slice Ad m c) m A v8 m8 C w0 w) (hm : 0 < m) : m ≤ c ∧ A.length = m ∧ ∃ g, Ad = some ⟨g, 0, none⟩ ∧ b7 ≤ g ∧ g < w.heap.size ∧ ∀ j (hj : j < A.length), w.cell? ⟨g, j, none⟩ = some (.string (bs A[j])) := by
  obtain ⟨A', c', hv, hc, hx⟩ := own_rdI h.r7
  injection hv with e1 _ e3
  subst e1; subst e3
  obtain ⟨g, hA, h1, h2, h3⟩ := hx hm
  exact ⟨hc, by have := h.r7.1; rw [List.length_map] at this; omega, g, hA, h1, h2, fun j hj => h3 j _ (by rw [List.getElem?_map, List.getElem?_eq_getElem hj]; rfl)⟩
theorem KM.at8 {m c : Nat} {Ad : Option Addr} (h : KM base n b7 P f v7 m7 A (.slice Ad m c) m C w0 w) (hm : 0 < m) : m ≤ c ∧ C.length = m ∧ ∃ g, Ad = some ⟨g, 0, none⟩ ∧ b7 ≤ g ∧ g < w.heap.size ∧ ∀ j (hj : j < C.length), w.cell? ⟨g, j, none⟩ = some (.string (bs C[j])) := by
  obtain ⟨A', c', hv, hc, hx⟩ := own_rdI h.r8
  injection hv with e1 _ e3
  subst e1; subst e3
  obtain ⟨g, hA, h1, h2, h3⟩ := hx hm
  exact ⟨hc, by have := h.r8.1; rw [List.length_map] at this; omega, g, hA, h1, h2, fun j hj => h3 j _ (by rw [List.getElem?_map, List.getElem?_eq_getElem hj]; rfl)⟩
end
structure Box3 (b : Nat) (x y z : Value) (w : World) : Prop where
  c0 : w.cell? ⟨b, 0, none⟩ = some x
  c1 : w.cell? ⟨b, 1, none⟩ = some y
  c2 : w.cell? ⟨b, 2, none⟩ = some z
theorem Box3.lt {b : Nat} {x y z : Value} {w : World} (h : Box3 b x y z w) : b < w.heap.size := World.block_lt_of_cell? w _ h.c0
theorem Box3.below {b B : Nat} {x y z : Value} {w w' : World} (h : Box3 b x y z w) (hb : Below B w w') (hB : b < B) : Box3 b x y z w' :=
  ⟨(hb.cell (p := ⟨b, 0, none⟩) hB).trans h.c0, (hb.cell (p := ⟨b, 1, none⟩) hB).trans h.c1, (hb.cell (p := ⟨b, 2, none⟩) hB).trans h.c2⟩
theorem Box3.mk' (w : World) (x y z : Value) (t : TypeId) : Box3 w.heap.size x y z (w.alloc (.cells #[x, y, z] t)) :=
  ⟨by rw [World.cell?_alloc_at _ _ _ _ rfl]; rfl, by rw [World.cell?_alloc_at _ _ _ _ rfl]; rfl, by rw [World.cell?_alloc_at _ _ _ _ rfl]; rfl⟩
end Go.Proofs.YtpanoplcamdnkaaGreatDoor

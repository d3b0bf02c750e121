/- A node by what it is and the blocks that it stands on: New, Put, Get, Recipe, Bin, Size. Conditions: as named. -/
import Derived.Test.YthddgclmnbaloaaDoorNdC
namespace Go.Proofs.YthddgclmnbaloaaDoor
open Go.RowKit Go.Lib Go.Maps Go.WideMaps

/-- what an act on a node leaves: the node that it is now, what stands -/
def NodeTo (n : Nat) (f : Foot) (P' : PNode) (w w' : World) : Prop := ∃ f', Node n P' f' w' ∧ FrS f.S w w' ∧ f.new f' w.heap.size
theorem NodeTo.below {n : Nat} {f : Foot} {P' : PNode} {w w' w2 : World} (h : NodeTo n f P' w w') (hb : Below w'.heap.size w' w2) : NodeTo n f P' w w2 := by
  obtain ⟨f', h1, h2, h3⟩ := h
  exact ⟨f', h1.below hb, h2.thenB hb, h3⟩
theorem NodeTo.stay {n : Nat} {f : Foot} {P : PNode} {w w' : World} (h : Node n P f w) (hb : Below w.heap.size w w') : NodeTo n f P w w' := ⟨f, h.below hb, FrS.of_below hb, Foot.new_refl _ _⟩
theorem Node.below {n : Nat} {f : Foot} {P : PNode} {w w' : World} (h : Node n P f w) (hb : Below w.heap.size w w') : Node n P f w' := Thing.below h hb
theorem Node.putC (a : Nat → Addr) {n : Nat} {P : PNode} {f : Foot} (hP : NodeOk P) (nm s : Bytes) (hn : StrOk nm) (w : World) (h : Node n P f w) (hs : SomeS [1, 3, 5, 6, 9] a w) :
    Calls Tryd.prog 8 #[.pointer (some ⟨n, 0, none⟩), .string (bs nm), .string (bs s)] w fun e w' => ∃ r, e = .returned (.tuple #[.int .i64 (putN nm s P).2.1, r]) ∧ EV a r (putN nm s P).2.2 (-1) w' ∧ NodeTo n f (putN nm s P).1 w w' := by
  obtain ⟨fm, bm, F, B, ho, rfl, rfl⟩ := h.at
  exact (NdPut_any a n fm bm F B hP nm s hn w ho hs).mono fun e w' ⟨r, f', h1, h2, h3, h4, h5⟩ => ⟨r, h1, h2, f', h3, h4, h5⟩
theorem Node.getC (a : Nat → Addr) {n : Nat} {P : PNode} {f : Foot} (hP : NodeOk P) (nm : Bytes) (hn : StrOk nm) (w : World) (h : Node n P f w) (hs : SomeS [1, 2, 3, 4, 6, 8] a w) :
    Calls Tryd.prog 31 #[.pointer (some ⟨n, 0, none⟩), .string (bs nm)] w (GetPost a (getN nm P) w) := by
  obtain ⟨fm, bm, F, B, ho, rfl, rfl⟩ := h.at
  exact NdGet_any a n fm bm F B hP nm hn w ho hs
theorem Node.recipeC (a : Nat → Addr) {n : Nat} {P : PNode} {f : Foot} (hP : NodeOk P) (nm : Bytes) (hn : StrOk nm) (w : World) (h : Node n P f w) (hs : SomeS [4] a w) :
    Calls Tryd.prog 9 #[.pointer (some ⟨n, 0, none⟩), .string (bs nm)] w fun e w' => ∃ v r, e = .returned (.tuple #[v, r]) ∧ EV a r (recN nm P).1 (-1) w' ∧ RcpW w' w.heap.size w'.heap.size v (recN nm P).2 ∧ Below w.heap.size w w' := by
  obtain ⟨fm, bm, F, B, ho, rfl, rfl⟩ := h.at
  exact NdRecipe_any a n fm bm F B hP nm hn w ho hs
theorem Node.binC {n : Nat} {P : PNode} {f : Foot} (hP : NodeOk P) (x : Idn) (hx : IdOk x) (w : World) (h : Node n P f w) :
    Calls Tryd.prog 12 #[.pointer (some ⟨n, 0, none⟩), idV x] w (BinPost P x w) := by
  obtain ⟨fm, bm, F, B, ho, rfl, rfl⟩ := h.at
  exact NdBin_any n fm bm F B hP x hx w ho
theorem Node.sizeC {n : Nat} {P : PNode} {f : Foot} (hP : NodeOk P) (w : World) (h : Node n P f w) :
    Calls Tryd.prog 32 #[.pointer (some ⟨n, 0, none⟩)] w fun e w' => e = .returned (.int .i64 (sizeN P)) ∧ Below w.heap.size w w' := by
  obtain ⟨fm, bm, F, B, ho, rfl, rfl⟩ := h.at
  exact NdSize_any n fm bm F B hP w ho
end Go.Proofs.YthddgclmnbaloaaDoor

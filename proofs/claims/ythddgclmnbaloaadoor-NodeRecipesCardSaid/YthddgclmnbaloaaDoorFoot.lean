/- Things in memory and the blocks on which they stand: what an act on one leaves of the others. No conditions. -/
import Derived.Test.YthddgclmnbaloaaDoorIds
namespace Go.Proofs.YthddgclmnbaloaaDoor
open Go.RowKit Go.Lib

/-- what was there stands, but for the blocks in S -/
structure FrS (S : Nat → Prop) (w w' : World) : Prop where
  os : w'.os = w.os
  tape : w'.tape = w.tape
  output : w'.output = w.output
  size : w.heap.size ≤ w'.heap.size
  block : ∀ k, k < w.heap.size → ¬ S k → w'.heap[k]? = w.heap[k]?
theorem FrS.refl (S : Nat → Prop) (w : World) : FrS S w w := ⟨rfl, rfl, rfl, Nat.le_refl _, fun _ _ _ => rfl⟩
theorem FrS.trans {S T : Nat → Prop} {a b c : World} (h : FrS S a b) (k : FrS T b c) (hT : ∀ i, T i → S i ∨ a.heap.size ≤ i) : FrS S a c :=
  ⟨k.os.trans h.os, k.tape.trans h.tape, k.output.trans h.output, Nat.le_trans h.size k.size, fun i hi hS => (k.block i (Nat.lt_of_lt_of_le hi h.size) (fun ht => (hT i ht).elim hS (fun h => by omega))).trans (h.block i hi hS)⟩
theorem FrS.of_below {S : Nat → Prop} {w w' : World} (h : Below w.heap.size w w') : FrS S w w' := ⟨h.os, h.tape, h.output, h.size, fun k hk _ => h.block k hk⟩
theorem FrS.of_gb {S : Nat → Prop} {b : Nat} {w w' : World} (h : w.grownBy w' (some b)) (hb : S b) : FrS S w w' := ⟨h.os, h.tape, h.output, h.size, fun k hk hn => h.block k hk (fun e => by injection e with e; exact hn (e ▸ hb))⟩
theorem FrS.mono {S T : Nat → Prop} {w w' : World} (h : FrS S w w') (hT : ∀ k, S k → T k) : FrS T w w' := ⟨h.os, h.tape, h.output, h.size, fun k hk hn => h.block k hk (fun e => hn (hT k e))⟩
theorem FrS.below {S : Nat → Prop} {B : Nat} {w0 w w' : World} (h0 : Below B w0 w) (hB : B ≤ w.heap.size) (h : FrS S w w') (hS : ∀ k, S k → B ≤ k) : Below B w0 w' :=
  h0.trans ⟨h.os, h.tape, h.output, h.size, fun k hk => h.block k (Nat.lt_of_lt_of_le hk hB) (fun hs => by have := hS k hs; omega)⟩
theorem FrS.thenB {S : Nat → Prop} {a b c : World} (h : FrS S a b) (k : Below b.heap.size b c) : FrS S a c := h.trans (FrS.of_below (S := S) k) (fun _ h => .inl h)
theorem FrS.cell {S : Nat → Prop} {w w' : World} (h : FrS S w w') {p : Addr} (hp : p.block < w.heap.size) (hn : ¬ S p.block) : w'.cell? p = w.cell? p := World.cell?_of_block (h.block _ hp hn)
/-- the blocks on which a thing stands: acts change those in S, those in R are read -/
structure Foot where
  S : Nat → Prop
  R : Nat → Prop
def Foot.ap (f g : Foot) : Prop := ∀ k, (f.S k → ¬ g.S k ∧ ¬ g.R k) ∧ (g.S k → ¬ f.R k)
def Foot.new (f f' : Foot) (B : Nat) : Prop := ∀ k, (f'.S k → f.S k ∨ B ≤ k) ∧ (f'.R k → f.R k ∨ B ≤ k)
def Foot.lt (f : Foot) (B : Nat) : Prop := ∀ k, f.S k ∨ f.R k → k < B
def Foot.ge (f : Foot) (B : Nat) : Prop := ∀ k, f.S k ∨ f.R k → B ≤ k
theorem Foot.ap.symm {f g : Foot} (h : f.ap g) : g.ap f := fun k => ⟨fun hg => ⟨fun hf => ((h k).1 hf).1 hg, (h k).2 hg⟩, fun hf => ((h k).1 hf).2⟩
theorem Foot.new_refl (f : Foot) (B : Nat) : f.new f B := fun _ => ⟨.inl, .inl⟩
theorem Foot.new.trans {f g h : Foot} {B C : Nat} (h1 : f.new g B) (h2 : g.new h C) (hB : B ≤ C) : f.new h B := fun k =>
  ⟨fun hs => ((h2 k).1 hs).elim (h1 k).1 (fun h => .inr (Nat.le_trans hB h)), fun hs => ((h2 k).2 hs).elim (h1 k).2 (fun h => .inr (Nat.le_trans hB h))⟩
theorem Foot.ap.step {f g f' : Foot} {B : Nat} (h : f.ap g) (hn : f.new f' B) (hg : g.lt B) : f'.ap g := fun k =>
  ⟨fun hs => ((hn k).1 hs).elim (h k).1 (fun hB => ⟨fun h => by have := hg k (.inl h); omega, fun h => by have := hg k (.inr h); omega⟩),
   fun hs hr => ((hn k).2 hr).elim ((h k).2 hs) (fun hB => by have := hg k (.inl hs); omega)⟩
theorem Foot.ap_of_ge {f g : Foot} {B : Nat} (hf : f.ge B) (hg : g.lt B) : f.ap g := fun k =>
  ⟨fun hs => ⟨fun h => by have := hg k (.inl h); have := hf k (.inl hs); omega, fun h => by have := hg k (.inr h); have := hf k (.inl hs); omega⟩, fun hs hr => by have := hg k (.inl hs); have := hf k (.inr hr); omega⟩
/-- Q holds, and by what lies in the blocks of f alone -/
structure Thing (Q : World → Prop) (f : Foot) (w : World) : Prop where
  lt : f.lt w.heap.size
  of : ∀ w' : World, w.heap.size ≤ w'.heap.size → (∀ k, f.S k ∨ f.R k → w'.heap[k]? = w.heap[k]?) → Q w'
theorem Thing.now {Q : World → Prop} {f : Foot} {w : World} (h : Thing Q f w) : Q w := h.of w (Nat.le_refl _) (fun _ _ => rfl)
theorem Thing.keep {Q : World → Prop} {f : Foot} {T : Nat → Prop} {w w' : World} (h : Thing Q f w) (hF : FrS T w w') (hd : ∀ k, f.S k ∨ f.R k → ¬ T k) : Thing Q f w' :=
  ⟨fun k hk => Nat.lt_of_lt_of_le (h.lt k hk) hF.size, fun w2 hz hk => h.of w2 (Nat.le_trans hF.size hz) fun k hm => (hk k hm).trans (hF.block k (h.lt k hm) (hd k hm))⟩
theorem Thing.far {Q : World → Prop} {f g : Foot} {w w' : World} (h : Thing Q f w) (hF : FrS g.S w w') (hd : g.ap f) : Thing Q f w' :=
  h.keep hF fun k hk hs => hk.elim ((hd k).1 hs).1 ((hd k).1 hs).2
theorem Thing.below {Q : World → Prop} {f : Foot} {w w' : World} (h : Thing Q f w) (hb : Below w.heap.size w w') : Thing Q f w' :=
  h.keep (T := fun _ => False) (FrS.of_below hb) (fun _ _ h => h)
theorem Thing.mono {Q Q' : World → Prop} {f : Foot} {w : World} (h : Thing Q f w) (hq : ∀ w', Q w' → Q' w') : Thing Q' f w := ⟨h.lt, fun w' hz hk => hq _ (h.of w' hz hk)⟩
end Go.Proofs.YthddgclmnbaloaaDoor

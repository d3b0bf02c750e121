/- An entry of a map made ahead of its store (n.files[a], n.bins[b] = x, y); cells stand while maps are written. No conditions but bounds. -/
import Derived.Test.YthddgclmnbaloaaDoorNdM
import Derived.WideKeyEntry
namespace Go.Proofs.YthddgclmnbaloaaDoor
open Go.RowKit Go.Lib Go.Maps Go.WideMaps Go.ChangeMaps

def Stay (w w' : World) : Prop := ∀ p v, w.cell? p = some v → w'.cell? p = some v
theorem Stay.refl (w : World) : Stay w w := fun _ _ h => h
theorem Stay.trans {a b c : World} (h : Stay a b) (k : Stay b c) : Stay a c := fun p v hv => k p v (h p v hv)
theorem Stay.drew {a b : World} (h : Stay a b) : Stay a b.drew := h
theorem stay_setBlock {w : World} {b : Nat} {es : Array MapEntry} {clock : Nat} {o : Obj} (hb : w.heap[b]? = some (.map es clock)) : Stay w (setBlock w b o) := by
  intro p v hv
  by_cases e : p.block = b
  · exfalso
    unfold World.cell? at hv
    rw [e, hb] at hv
    simp at hv
  · rw [← hv]
    exact World.cell?_of_block (by unfold setBlock; simp [Array.getElem?_setIfInBounds, Ne.symm e])
section
variable {K V : Type} {P : Program} {k : TypeId} {lit : K → Lit} {lt : K → K → Bool} {ok okw : K → Prop} {kv : K → Value} [DecidableEq K]
theorem AlMap.entry (R : KeyRd P k lit lt ok okw kv) (KL : KeyLaw P k) {f : V → Value} {mb : Nat} {L : List (K × V)} {w : World} (h : AlMap P k lit f mb L w) (hs : AlSrt lt L) (hL : ∀ p ∈ L, ok p.1) {t e : TypeId} (ht : P.underlying t = some (.map k e)) {z : Value} (hz : ∀ u : World, (zeroValue e).run P u = .ok z u) (hn : L.length < maxLen) (x : K) (v : V) (hx : ok x) :
    ∃ v0 st w1 w2, (Instr.mapEntry t (.map (some mb)) (kv x)).run P w = .ok (.tuple #[v0, goInt st]) w1 ∧ Stay w w1 ∧ (Instr.entryStore t (.map (some mb)) (goInt st) (f v)).run P w1 = .ok () w2 ∧ AlMap P k lit f mb (alPut lt x v L) w2 ∧ Stay w w2 ∧ w.grownBy w2 (some mb) ∧ w2.heap.size = w.heap.size := by
  have h0 := h
  obtain ⟨es, clock, hb, F, hsz, hD⟩ := h
  obtain ⟨v0, st, es1, clock1, h1, _, h3⟩ := Go.WideElems.entry_then_store KL ht hz hb F (R.key (R.emb.wide hx))
  obtain ⟨es2, clock2, h4, h5⟩ := h3 (setBlock w mb (.map es1 clock1)) (f v) (heap_setBlock_same hb _)
  obtain ⟨w', h6, h7, h8⟩ := World.ownsMap.store h0 R.law ht hn (R.key (R.emb.wide hx)) (show rawE (f v) = some (.held (f v), []) from rfl)
  rw [h5] at h6
  injection h6 with _ h6
  have e2 : setBlock (setBlock w mb (.map es1 clock1)) mb (.map es2 clock2) = setBlock w mb (.map es2 clock2) := by unfold setBlock; simp
  rw [e2] at h4
  refine ⟨v0, st, _, _, h1, stay_setBlock hb, h4, ?_, stay_setBlock hb, ?_, ?_⟩
  · rw [h6]; exact AlMap.put R hs hL x v hx h7
  · rw [h6]; exact h8.grown
  · simp [setBlock]
end
theorem klStr : KeyLaw Tryd.prog 9 := string_law Tryd.underlying9
theorem klId : KeyLaw Tryd.prog 44 := deep_law_laid laidOutA (m := 2) (by omega) (of_decide_eq_true (by kernel_rfl)) (by kernel_rfl) (by rw [Tryd.underlying44])
end Go.Proofs.YthddgclmnbaloaaDoor

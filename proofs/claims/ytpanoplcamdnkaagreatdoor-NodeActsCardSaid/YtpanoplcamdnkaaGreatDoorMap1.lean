/- Foot, AlM in one text. Conditions: as each part says. -/

import Derived.Test.YtpanoplcamdnkaaGreatDoorIds1
import Derived.Test.YtpanoplcamdnkaaGreatDoorPln3
import Derived.Maps.OwnSet
import Derived.Maps.RangeWalk
import Derived.Maps.Views
import Derived.Handy
import Derived.WalkKit
/- Things in memory and the blocks on which they stand: what an act on one leaves of the others. No conditions. -/
namespace Go.Proofs.YtpanoplcamdnkaaGreatDoor
open Go.RowKit Go.Lib

/-- what was there stands, but for the blocks in S -/
structure FrS (S : Nat → Prop) (w w' : World) : Prop where
  os : w'.os = w.os
  tape : w'.tape = w.tape
  output : w'.output = w.output
  size : w.heap.size ≤ w'.heap.size
  block : ∀ k, k < w.heap.size → ¬ S k → w'.heap[k]? = w.heap[k]?
theorem FrS.refl (S : Nat → Prop) (w : World) : FrS S w w := ⟨rfl, rfl, rfl, Nat.le_refl _, fun _ _ _ => rfl⟩
theorem FrS.trans {S T : Nat → Prop} {a b c : World} (h : FrS S a b) (k : FrS T b c) (hT : ∀ i, T i → S i ∨ a.heap.size ≤ i) : FrS S a c :=
  ⟨k.os.trans h.os, k.tape.trans h.tape, k.output.trans h.output, Nat.le_trans h.size k.size, fun i hi hS => (k.block i (Nat.lt_of_lt_of_le hi h.size) (fun ht => (hT i ht).elim hS (fun h => by omega))).trans (h.block i hi hS)⟩
theorem FrS.of_below {S : Nat → Prop} {w w' : World} (h : Below w.heap.size w w') : FrS S w w' := ⟨h.os, h.tape, h.output, h.size, fun k hk _ => h.block k hk⟩
theorem FrS.of_gb {S : Nat → Prop} {b : Nat} {w w' : World} (h : w.grownBy w' (some b)) (hb : S b) : FrS S w w' := ⟨h.os, h.tape, h.output, h.size, fun k hk hn => h.block k hk (fun e => by injection e with e; exact hn (e ▸ hb))⟩
theorem FrS.mono {S T : Nat → Prop} {w w' : World} (h : FrS S w w') (hT : ∀ k, S k → T k) : FrS T w w' := ⟨h.os, h.tape, h.output, h.size, fun k hk hn => h.block k hk (fun e => hn (hT k e))⟩
theorem FrS.below {S : Nat → Prop} {B : Nat} {w0 w w' : World} (h0 : Below B w0 w) (hB : B ≤ w.heap.size) (h : FrS S w w') (hS : ∀ k, S k → B ≤ k) : Below B w0 w' :=
  h0.trans ⟨h.os, h.tape, h.output, h.size, fun k hk => h.block k (Nat.lt_of_lt_of_le hk hB) (fun hs => by have := hS k hs; omega)⟩
theorem FrS.thenB {S : Nat → Prop} {a b c : World} (h : FrS S a b) (k : Below b.heap.size b c) : FrS S a c := h.trans (FrS.of_below (S := S) k) (fun _ h => .inl h)
theorem FrS.cell {S : Nat → Prop} {w w' : World} (h : FrS S w w') {p : Addr} (hp : p.block < w.heap.size) (hn : ¬ S p.block) : w'.cell? p = w.cell? p := World.cell?_of_block (h.block _ hp hn)
/-- the blocks on which a thing stands: acts change those in S, those in R are read -/
structure Foot where
  S : Nat → Prop
  R : Nat → Prop
def Foot.ap (f g : Foot) : Prop := ∀ k, (f.S k → ¬ g.S k ∧ ¬ g.R k) ∧ (g.S k → ¬ f.R k)
def Foot.new (f f' : Foot) (B : Nat) : Prop := ∀ k, (f'.S k → f.S k ∨ B ≤ k) ∧ (f'.R k → f.R k ∨ B ≤ k)
def Foot.lt (f : Foot) (B : Nat) : Prop := ∀ k, f.S k ∨ f.R k → k < B
def Foot.ge (f : Foot) (B : Nat) : Prop := ∀ k, f.S k ∨ f.R k → B ≤ k
theorem Foot.ap.symm {f g : Foot} (h : f.ap g) : g.ap f := fun k => ⟨fun hg => ⟨fun hf => ((h k).1 hf).1 hg, (h k).2 hg⟩, fun hf => ((h k).1 hf).2⟩
theorem Foot.new_refl (f : Foot) (B : Nat) : f.new f B := fun _ => ⟨.inl, .inl⟩
theorem Foot.new.trans {f g h : Foot} {B C : Nat} (h1 : f.new g B) (h2 : g.new h C) (hB : B ≤ C) : f.new h B := fun k =>
  ⟨fun hs => ((h2 k).1 hs).elim (h1 k).1 (fun h => .inr (Nat.le_trans hB h)), fun hs => ((h2 k).2 hs).elim (h1 k).2 (fun h => .inr (Nat.le_trans hB h))⟩
theorem Foot.ap.step {f g f' : Foot} {B : Nat} (h : f.ap g) (hn : f.new f' B) (hg : g.lt B) : f'.ap g := fun k =>
  ⟨fun hs => ((hn k).1 hs).elim (h k).1 (fun hB => ⟨fun h => by have := hg k (.inl h); omega, fun h => by have := hg k (.inr h); omega⟩),
   fun hs hr => ((hn k).2 hr).elim ((h k).2 hs) (fun hB => by have := hg k (.inl hs); omega)⟩
theorem Foot.ap_of_ge {f g : Foot} {B : Nat} (hf : f.ge B) (hg : g.lt B) : f.ap g := fun k =>
  ⟨fun hs => ⟨fun h => by have := hg k (.inl h); have := hf k (.inl hs); omega, fun h => by have := hg k (.inr h); have := hf k (.inl hs); omega⟩, fun hs hr => by have := hg k (.inl hs); have := hf k (.inr hr); omega⟩
/-- Q holds, and by what lies in the blocks of f alone -/
structure Thing (Q : World → Prop) (f : Foot) (w : World) : Prop where
  lt : f.lt w.heap.size
  of : ∀ w' : World, w.heap.size ≤ w'.heap.size → (∀ k, f.S k ∨ f.R k → w'.heap[k]? = w.heap[k]?) → Q w'
theorem Thing.now {Q : World → Prop} {f : Foot} {w : World} (h : Thing Q f w) : Q w := h.of w (Nat.le_refl _) (fun _ _ => rfl)
theorem Thing.keep {Q : World → Prop} {f : Foot} {T : Nat → Prop} {w w' : World} (h : Thing Q f w) (hF : FrS T w w') (hd : ∀ k, f.S k ∨ f.R k → ¬ T k) : Thing Q f w' :=
  ⟨fun k hk => Nat.lt_of_lt_of_le (h.lt k hk) hF.size, fun w2 hz hk => h.of w2 (Nat.le_trans hF.size hz) fun k hm => (hk k hm).trans (hF.block k (h.lt k hm) (hd k hm))⟩
theorem Thing.far {Q : World → Prop} {f g : Foot} {w w' : World} (h : Thing Q f w) (hF : FrS g.S w w') (hd : g.ap f) : Thing Q f w' :=
  h.keep hF fun k hk hs => hk.elim ((hd k).1 hs).1 ((hd k).1 hs).2
theorem Thing.below {Q : World → Prop} {f : Foot} {w w' : World} (h : Thing Q f w) (hb : Below w.heap.size w w') : Thing Q f w' :=
  h.keep (T := fun _ => False) (FrS.of_below hb) (fun _ _ h => h)
theorem Thing.mono {Q Q' : World → Prop} {f : Foot} {w : World} (h : Thing Q f w) (hq : ∀ w', Q w' → Q' w') : Thing Q' f w := ⟨h.lt, fun w' hz hk => hq _ (h.of w' hz hk)⟩
end Go.Proofs.YtpanoplcamdnkaaGreatDoor
/- Maps in memory with any elements, read as sorted lists of keys and values: look-up, len, store, deletion, ranges. No conditions but bounds. -/
namespace Go.Proofs.YtpanoplcamdnkaaGreatDoor
open Go.RowKit Go.Lib Go.Maps Go.WideMaps

/-- how keys of a map's key type are read -/
structure KeyRd {K : Type} [DecidableEq K] (P : Program) (k : TypeId) (lit : K → Lit) (lt : K → K → Bool) (ok okw : K → Prop) (kv : K → Value) : Prop where
  emb : KeyEmb lit lt ok okw
  law : Keyed P k
  key : ∀ {x}, okw x → keyOf P k (kv x) = some (lit x)
  inv : ∀ {v kl}, keyOf P k v = some kl → ∃ x, okw x ∧ v = kv x ∧ kl = lit x
  kinj : ∀ {x y}, kv x = kv y → x = y
  lit : ∀ x, WideAt.IsKeyLit (lit x)
section
variable {K V : Type} {P : Program} {k : TypeId} {lit : K → Lit} {lt : K → K → Bool} {ok okw : K → Prop} {kv : K → Value}
/-- the map in block mb holds the elements f v at the keys of L -/
def AlMap (P : Program) (k : TypeId) (lit : K → Lit) (f : V → Value) (mb : Nat) (L : List (K × V)) (w : World) : Prop := w.ownsMap P k rawE mb L.length (alD lit f L)
theorem AlMap.blt {f : V → Value} {mb : Nat} {L : List (K × V)} {w : World} (h : AlMap P k lit f mb L w) : mb < w.heap.size := World.ownsMap.lt h
theorem AlMap.keep {f : V → Value} {mb : Nat} {L : List (K × V)} {w w' : World} (h : AlMap P k lit f mb L w) (h2 : w'.heap[mb]? = w.heap[mb]?) : AlMap P k lit f mb L w' := by
  obtain ⟨es, clock, e1, e2⟩ := h
  exact ⟨es, clock, h2.trans e1, e2⟩
theorem AlMap.below {f : V → Value} {mb : Nat} {L : List (K × V)} {w w' : World} (h : AlMap P k lit f mb L w) (hb : Below w.heap.size w w') : AlMap P k lit f mb L w' := h.keep (hb.block mb h.blt)
theorem AlMap.grown {f : V → Value} {mb : Nat} {L : List (K × V)} {w w' : World} {r : Option Nat} (h : AlMap P k lit f mb L w) (hg : w.grownBy w' r) (h2 : some mb ≠ r) : AlMap P k lit f mb L w' := h.keep (hg.block mb h.blt h2)
theorem AlMap.isMap {f : V → Value} {mb : Nat} {L : List (K × V)} {w : World} (h : AlMap P k lit f mb L w) : ∃ es clock, w.heap[mb]? = some (.map es clock) := by
  obtain ⟨es, clock, e1, _⟩ := h
  exact ⟨es, clock, e1⟩
theorem AlMap.tight {f : V → Value} {mb n : Nat} {L : List (K × V)} {w : World} (h : w.ownsMap P k rawE mb n (alD lit f L)) : AlMap P k lit f mb L w := by
  obtain ⟨es, clock, hb, F, _, hD⟩ := h
  refine ⟨es, clock, hb, F, ?_, hD⟩
  have e : Maps.size (alD lit f L) = es.size := by rw [hD]; simp [Maps.size, length_sorted]
  rw [size_alD] at e
  omega
theorem AlMap.conv {U : Type} {f : V → Value} {g : U → Value} {h' : V → U} {mb : Nat} {L : List (K × V)} {w : World} (h : AlMap P k lit f mb L w) (e : ∀ p ∈ L, f p.2 = g (h' p.2)) : AlMap P k lit g mb (alMap h' L) w := by
  have e2 : alD lit f L = alD lit g (alMap h' L) := by
    unfold alD alMap
    rw [List.map_map]
    congr 1
    exact List.map_congr_left fun p hp => by show (lit p.1, DataW.held (f p.2)) = (lit p.1, DataW.held (g (h' p.2))); rw [e p hp]
  unfold AlMap at h ⊢
  rw [← e2, alMap_length]; exact h
theorem AlMap.made (w : World) (f : V → Value) : AlMap P k lit f w.heap.size ([] : List (K × V)) (w.alloc (.map #[] 0)) := World.ownsMap_made w P k rawE
variable [DecidableEq K]
theorem AlMap.look (R : KeyRd P k lit lt ok okw kv) {f : V → Value} {mb : Nat} {L : List (K × V)} {w : World} (h : AlMap P k lit f mb L w) (hL : ∀ p ∈ L, ok p.1) {t e : TypeId} (ht : P.underlying t = some (.map k e)) {z : Value} (hz : (zeroValue e).run P w = .ok z w) {x : K} (hx : okw x) :
    (Instr.lookup t (.map (some mb)) (kv x) true).run P w = .ok (.tuple #[((alGet L x).map f).getD z, .bool (alGet L x).isSome]) w := by
  obtain ⟨v, ps, hr, hv⟩ := World.ownsMap.look_ok h R.law ht hz (show rawE z = some (.held z, []) from rfl) (R.key hx)
  rw [atKey_alD R.emb f hL hx] at hv
  injection hv with hv
  injection hv with hv _
  injection hv with hv
  rw [hr, has_alD R.emb f hL hx, hv]
theorem AlMap.at (R : KeyRd P k lit lt ok okw kv) {f : V → Value} {mb : Nat} {L : List (K × V)} {w : World} (h : AlMap P k lit f mb L w) (hL : ∀ p ∈ L, ok p.1) {t e : TypeId} (ht : P.underlying t = some (.map k e)) {z : Value} (hz : (zeroValue e).run P w = .ok z w) {x : K} (hx : okw x) :
    (Instr.lookup t (.map (some mb)) (kv x) false).run P w = .ok (((alGet L x).map f).getD z) w := by
  obtain ⟨v, ps, hr, hv⟩ := World.ownsMap.lookup h R.law ht hz (show rawE z = some (.held z, []) from rfl) (R.key hx)
  rw [atKey_alD R.emb f hL hx] at hv
  injection hv with hv
  injection hv with hv _
  injection hv with hv
  rw [hr, hv]
omit [DecidableEq K] in
theorem AlMap.size {f : V → Value} {mb : Nat} {L : List (K × V)} {w : World} (h : AlMap P k lit f mb L w) {t e : TypeId} (ht : P.underlying t = some (.map k e)) (ty : TypeId) : (Builtin.len_ #[t] ty #[.map (some mb)]).run P w = .ok (.int .i64 (L.length : Int)) w := by
  have := World.ownsMap.len h ht ty
  rw [size_alD] at this
  exact this
/-- the map with another element at a key, out of what the law at the store hands over -/
theorem AlMap.put (R : KeyRd P k lit lt ok okw kv) {f : V → Value} {mb n : Nat} {L : List (K × V)} {w' : World} (hs : AlSrt lt L) (hL : ∀ p ∈ L, ok p.1) (x : K) (v : V) (hx : ok x) (hm : w'.ownsMap P k rawE mb n ((alD lit f L).put (lit x) (.held (f v)))) : AlMap P k lit f mb (alPut lt x v L) w' := by
  rw [put_alD R.emb f hs hL x v hx] at hm
  exact AlMap.tight hm
theorem AlMap.del (R : KeyRd P k lit lt ok okw kv) {f : V → Value} {mb n : Nat} {L : List (K × V)} {w' : World} (hL : ∀ p ∈ L, ok p.1) (x : K) (hx : ok x) (hm : w'.ownsMap P k rawE mb n ((alD lit f L).del (lit x))) : AlMap P k lit f mb (alDel x L) w' := by
  rw [del_alD R.emb f hL x hx] at hm
  exact AlMap.tight hm
/-! ### ranges -/
theorem rawE_inv : ∀ (v : Value) (y : DataW Value × List MemPlace), rawE v = some y → ∃ u : Value, v = id u := fun v _ _ => ⟨v, rfl⟩
theorem KeyRd.mk_inv (R : KeyRd P k lit lt ok okw kv) : ∀ key kl, keyOf P k key = some kl → ∃ x : K, key = kv x := fun _ _ h => by obtain ⟨x, _, hx, _⟩ := R.inv h; exact ⟨x, hx⟩
/-- what comes out of a range over a map -/
theorem al_came (R : KeyRd P k lit lt ok okw kv) {f : V → Value} {L : List (K × V)} (hL : ∀ p ∈ L, ok p.1) {x : K} {c : Value} {kl : Lit} {y : DataW Value × List MemPlace} (hkey : keyOf P k (kv x) = some kl) (hv : rawE (id c) = some y) (hat : ∀ zd, (alD lit f L).atKey kl zd = y.1) :
    kl = lit x ∧ okw x ∧ ∃ v, (x, v) ∈ L ∧ c = f v := by
  obtain ⟨x', hx, e, rfl⟩ := R.inv hkey
  obtain rfl := R.kinj e
  refine ⟨rfl, hx, ?_⟩
  injection hv with hv
  subst hv
  have hh := Maps.has_true_of_atKey hat
  rw [has_alD R.emb f hL hx] at hh
  obtain ⟨v, hg⟩ := Option.isSome_iff_exists.1 hh
  have h2 := hat (.held c)
  rw [atKey_alD R.emb f hL hx, hg] at h2
  injection h2 with h2
  exact ⟨v, alGet_mem hg, h2.symm⟩
/-! ### what has come of a range -/
/-- these have come, in this order -/
def AlCame (lit : K → Lit) (L : List (K × V)) (left : Lit → Bool) (os : List (K × V)) : Prop := (os.map (·.1)).Nodup ∧ ∀ o, o ∈ os ↔ o ∈ L ∧ left (lit o.1) = false
theorem AlCame.start (E : KeyEmb lit lt ok okw) (f : V → Value) {L : List (K × V)} (hL : ∀ p ∈ L, ok p.1) : AlCame lit L (Maps.has (alD lit f L)) [] := ⟨List.nodup_nil, fun o => ⟨fun h => absurd h List.not_mem_nil, fun ⟨h, hl⟩ => by
  rw [has_alD E f hL (E.wide (hL o h))] at hl
  cases hg : alGet L o.1 with
  | some _ => rw [hg] at hl; cases hl
  | none => exact absurd rfl (alGet_none.1 hg o h)⟩⟩
theorem al_inj (E : KeyEmb lit lt ok okw) {L : List (K × V)} (hs : AlSrt lt L) {x y : K × V} (hx : x ∈ L) (hy : y ∈ L) (h : x.1 = y.1) : x = y := by
  induction L with
  | nil => cases hx
  | cons z r ih =>
    obtain ⟨h1, h2⟩ := alSrt_cons.1 hs
    rcases List.mem_cons.1 hx with e1 | hx'
    · rcases List.mem_cons.1 hy with e2 | hy'
      · rw [e1, e2]
      · rw [e1] at h; exact absurd h (E.ne (h1 y hy'))
    · rcases List.mem_cons.1 hy with e2 | hy'
      · rw [e2] at h; exact absurd h.symm (E.ne (h1 x hx'))
      · exact ih h2 hx' hy'
theorem AlCame.step (E : KeyEmb lit lt ok okw) {L : List (K × V)} {left : Lit → Bool} {os : List (K × V)} (h : AlCame lit L left os) (hs : AlSrt lt L) (hL : ∀ y ∈ L, ok y.1) {o : K × V} (ho : o ∈ L) (hl : left (lit o.1) = true) :
    AlCame lit L (fun z => left z && !z.sameKey (lit o.1)) (os ++ [o]) := by
  have hno : ∀ p ∈ os, p.1 ≠ o.1 := fun p hm e => by
    have h1 := (h.2 p).1 hm
    have := h1.2
    rw [e, hl] at this; cases this
  refine ⟨?_, fun y => ?_⟩
  · rw [List.map_append]
    refine List.nodup_append.2 ⟨h.1, by simp, fun a ha b hb e => ?_⟩
    obtain ⟨p, hp, rfl⟩ := List.mem_map.1 ha
    rw [List.map_cons, List.map_nil, List.mem_singleton] at hb
    exact hno p hp (e.trans hb)
  · rw [List.mem_append, List.mem_singleton, h.2 y]
    constructor
    · rintro (⟨h1, h2⟩ | rfl)
      · exact ⟨h1, by show (left (lit y.1) && _) = false; rw [h2]; rfl⟩
      · exact ⟨ho, by show (left (lit y.1) && !(lit y.1).sameKey (lit y.1)) = false; rw [E.same (E.wide (hL y ho)) (E.wide (hL y ho))]; simp⟩
    · rintro ⟨h1, h2⟩
      cases hly : left (lit y.1) with
      | false => exact .inl ⟨h1, rfl⟩
      | true =>
        right
        have h2 : (left (lit y.1) && !(lit y.1).sameKey (lit o.1)) = false := h2
        rw [hly, E.same (E.wide (hL y h1)) (E.wide (hL o ho))] at h2
        exact al_inj E hs h1 ho (by simpa using h2)
theorem al_nodupL (E : KeyEmb lit lt ok okw) {L : List (K × V)} (hs : AlSrt lt L) : L.Nodup := hs.imp fun h e => by subst e; exact E.ne h rfl
theorem AlCame.perm (E : KeyEmb lit lt ok okw) {L : List (K × V)} {left : Lit → Bool} {os : List (K × V)} (h : AlCame lit L left os) (hs : AlSrt lt L) (hl : ∀ kl, left kl = false) : os.Perm L := by
  refine (List.perm_ext_iff_of_nodup ?_ (al_nodupL E hs)).2 fun o => ?_
  · have := h.1
    unfold List.Nodup at this
    rw [List.pairwise_map] at this
    exact this.imp fun hab e => hab (by rw [e])
  · rw [h.2 o]
    exact ⟨fun h => h.1, fun h => ⟨h, hl _⟩⟩
omit [DecidableEq K] in
theorem AlCame.sub {L : List (K × V)} {left : Lit → Bool} {os : List (K × V)} (h : AlCame lit L left os) : ∀ o ∈ os, o ∈ L := fun o ho => ((h.2 o).1 ho).1
end
end Go.Proofs.YtpanoplcamdnkaaGreatDoor

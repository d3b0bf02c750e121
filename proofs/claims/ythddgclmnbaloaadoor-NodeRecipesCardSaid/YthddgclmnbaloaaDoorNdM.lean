/- Nodes in memory: a map of recipes by names, a map of bins by reps; look-up, what stands. No conditions but bounds. -/
import Derived.Test.YthddgclmnbaloaaDoorFoot
import Derived.Test.YthddgclmnbaloaaDoorAlM
import Derived.Test.YthddgclmnbaloaaDoorPlainNd
import Derived.Test.YthddgclmnbaloaaDoorBin1
import Derived.Sort.MapsRangeIn
namespace Go.Proofs.YthddgclmnbaloaaDoor
open Go.RowKit Go.Lib Go.Maps Go.WideMaps

/-! ### keys -/
abbrev strV (b : Bytes) : Value := .string (bs b)
theorem lawStr : Keyed Tryd.prog 9 := Keyed.of_law (string_law Tryd.underlying9)
theorem strKey {x : Bytes} (h : StrOk x) : keyOf Tryd.prog 9 (strV x) = some (strLit x) := by
  have := keyOf_string_mk (P := Tryd.prog) Tryd.underlying9 (s := bs x) (by rw [bs_size]; exact h)
  rw [this, bs_toList]; rfl
theorem strKey_inv {v : Value} {kl : Lit} (h : keyOf Tryd.prog 9 v = some kl) : ∃ x, StrOk x ∧ v = strV x ∧ kl = strLit x := by
  obtain ⟨s, rfl⟩ := Maps.keyOf_string_inv Tryd.underlying9 h
  have hz : s.size ≤ maxLen := by
    rcases Nat.lt_or_ge maxLen s.size with hlt | hge
    · exfalso
      rw [keyOf_string Tryd.underlying9] at h
      simp [mapKey, Lit.wf] at h
      omega
    · exact hge
  have h2 := keyOf_string_mk (P := Tryd.prog) Tryd.underlying9 hz
  rw [h2] at h
  injection h with h
  exact ⟨s.data.toList, by unfold StrOk; rw [← size_toList]; exact hz, by show _ = Value.string (bs s.data.toList); rw [bs_of], h.symm⟩
theorem strRd : KeyRd Tryd.prog 9 strLit bytesBefore StrOk StrOk strV where
  emb := strEmb
  law := lawStr
  key := strKey
  inv := strKey_inv
  kinj := fun {x y} h => by
    injection h with h
    have := congrArg (fun b => b.data.toList) h
    simpa [bs_toList] using this
  lit := fun _ => trivial
theorem idRd : KeyRd Tryd.prog 44 idLit lesser IdOk0 IdOk idV where
  emb := idEmb
  law := lawI
  key := keyI
  inv := keyI_inv
  kinj := idV_inj
  lit := fun _ => trivial
/-! ### what the maps hold -/
structure FE where
  r : Rcp
  sl : Value
structure BE where
  L : HldL
  b : Nat
  mb : Nat
def feV (e : FE) : Value := .agg #[VT e.r.name, .int .i64 e.r.len, .int .u32 (e.r.print : Int), e.sl]
def beV (e : BE) : Value := .pointer (some ⟨e.b, 0, none⟩)
theorem zeroFE (w : World) : (zeroValue 36).run Tryd.prog w = .ok (.agg #[.string ByteArray.empty, .int .i64 0, .int .u32 0, .slice none 0 0]) w := by kernel_rfl
theorem zeroBE (w : World) : (zeroValue 41).run Tryd.prog w = .ok (.pointer none) w := by kernel_rfl
abbrev FL := List (Bytes × FE)
abbrev BL := List (Idn × BE)
/-- a node in block n, its maps in blocks fm and bm -/
structure ONode (n fm bm : Nat) (F : FL) (B : BL) (w : World) : Prop where
  row : w.heap[n]? = some (.cells #[.map (some fm), .map (some bm)] 74 (0, 0))
  files : AlMap Tryd.prog 9 strLit feV fm F w
  bins : AlMap Tryd.prog 44 idLit beV bm B w
  rd : ∀ q ∈ F, RdI w w.heap.size q.2.sl q.2.r.ids
  bin : ∀ q ∈ B, OBin q.2.b q.2.mb q.2.L w
  nd : (fm :: bm :: B.map (fun q => q.2.mb)).Nodup
def plainNode (F : FL) (B : BL) : PNode := ⟨alMap FE.r F, alMap BE.L B⟩
/-- the blocks on which a node stands -/
def nodeFoot (n fm bm : Nat) (F : FL) (B : BL) : Foot :=
  ⟨fun k => k = fm ∨ k = bm ∨ ∃ q ∈ B, q.2.mb = k, fun k => k = n ∨ (∃ q ∈ B, q.2.b = k) ∨ ∃ q ∈ F, q.2.sl.ownBlock = some k ∧ q.2.r.ids ≠ []⟩
def NodeIs (n : Nat) (P : PNode) (f : Foot) (w : World) : Prop := ∃ fm bm F B, ONode n fm bm F B w ∧ plainNode F B = P ∧ nodeFoot n fm bm F B = f
theorem ONode.nlt {n fm bm : Nat} {F : FL} {B : BL} {w : World} (h : ONode n fm bm F B w) : n < w.heap.size := (Array.getElem?_eq_some_iff.1 h.row).1
theorem ONode.c0 {n fm bm : Nat} {F : FL} {B : BL} {w : World} (h : ONode n fm bm F B w) : w.cell? ⟨n, 0, none⟩ = some (.map (some fm)) := by rw [cell_of_row w n 0 _ _ _ h.row]; rfl
theorem ONode.c1 {n fm bm : Nat} {F : FL} {B : BL} {w : World} (h : ONode n fm bm F B w) : w.cell? ⟨n, 1, none⟩ = some (.map (some bm)) := by rw [cell_of_row w n 1 _ _ _ h.row]; rfl
theorem RdI.keepF {w w' : World} {v : Value} {L : IdL} (h : RdI w w.heap.size v L) (hz : w.heap.size ≤ w'.heap.size) (hk : ∀ k, v.ownBlock = some k → L ≠ [] → k < w.heap.size → w'.heap[k]? = w.heap[k]?) : RdI w' w'.heap.size v L := by
  obtain ⟨A, c, hv, hl, hc, hx⟩ := h
  refine ⟨A, c, hv, hl, hc, fun h0 => ?_⟩
  obtain ⟨g, o, hA, hg, hcell⟩ := hx h0
  subst hA; subst hv
  exact ⟨g, o, rfl, by omega, fun k u hu => (World.cell?_of_block (a := ⟨g, o + k, none⟩) (hk g rfl (fun e => by rw [e] at h0; exact absurd h0 (by simp [idRow])) hg)).trans (hcell k u hu)⟩
theorem ONode.lt {n fm bm : Nat} {F : FL} {B : BL} {w : World} (h : ONode n fm bm F B w) : ∀ k, (nodeFoot n fm bm F B).S k → k < w.heap.size := fun k hk => by
  rcases hk with rfl | rfl | ⟨q, hq, rfl⟩
  · exact h.files.blt
  · exact h.bins.blt
  · exact (h.bin q hq).map.lt
theorem ONode.ltB {n fm bm : Nat} {F : FL} {B : BL} {w : World} (h : ONode n fm bm F B w) : ∀ q ∈ B, q.2.b < w.heap.size := fun q hq => (h.bin q hq).lt
/-- a node stands when its blocks do -/
theorem ONode.keepH {n fm bm : Nat} {F : FL} {B : BL} {w w' : World} (h : ONode n fm bm F B w) (hz : w.heap.size ≤ w'.heap.size) (hk : ∀ k, k < w.heap.size → ((nodeFoot n fm bm F B).S k ∨ (nodeFoot n fm bm F B).R k) → w'.heap[k]? = w.heap[k]?) : ONode n fm bm F B w' where
  row := (hk n h.nlt (.inr (.inl rfl))).trans h.row
  files := h.files.keep (hk fm h.files.blt (.inl (.inl rfl)))
  bins := h.bins.keep (hk bm h.bins.blt (.inl (.inr (.inl rfl))))
  rd := fun q hq => (h.rd q hq).keepF hz fun k e hne hlt => hk k hlt (.inr (.inr (.inr ⟨q, hq, e, hne⟩)))
  bin := fun q hq => (h.bin q hq).keep (hk q.2.b (h.bin q hq).lt (.inr (.inr (.inl ⟨q, hq, rfl⟩)))) (hk q.2.mb (h.bin q hq).map.lt (.inl (.inr (.inr ⟨q, hq, rfl⟩))))
  nd := h.nd
theorem ONode.below {n fm bm : Nat} {F : FL} {B : BL} {w w' : World} (h : ONode n fm bm F B w) (hb : Below w.heap.size w w') : ONode n fm bm F B w' := h.keepH hb.size fun k hk _ => hb.block k hk
end Go.Proofs.YthddgclmnbaloaaDoor

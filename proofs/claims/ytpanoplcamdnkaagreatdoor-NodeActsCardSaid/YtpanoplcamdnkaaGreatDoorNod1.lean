/- NdM, NdE, NdA, NdP in one text. Conditions: as each part says. -/
import Derived.Test.YtpanoplcamdnkaaGreatDoorMap1
import Derived.Test.YtpanoplcamdnkaaGreatDoorPln3
import Derived.Test.YtpanoplcamdnkaaGreatDoorBin1
import Derived.Sort.MapsRangeIn
import Derived.WideKeyEntry
/- Nodes in memory: a map of recipes by names, a map of bins by reps; look-up, what stands. No conditions but bounds. -/
namespace Go.Proofs.YtpanoplcamdnkaaGreatDoor
open Go.RowKit Go.Lib Go.Maps Go.WideMaps

/-! ### keys -/
abbrev strV (b : Bytes) : Value := .string (bs b)
theorem lawStr : Keyed Tryz.prog 9 := Keyed.of_law (string_law Tryz.underlying9)
theorem strKey {x : Bytes} (h : StrOk x) : keyOf Tryz.prog 9 (strV x) = some (strLit x) := by
  have := keyOf_string_mk (P := Tryz.prog) Tryz.underlying9 (s := bs x) (by rw [bs_size]; exact h)
  rw [this, bs_toList]; rfl
theorem strKey_inv {v : Value} {kl : Lit} (h : keyOf Tryz.prog 9 v = some kl) : ∃ x, StrOk x ∧ v = strV x ∧ kl = strLit x := by
  obtain ⟨s, rfl⟩ := Maps.keyOf_string_inv Tryz.underlying9 h
  have hz : s.size ≤ maxLen := by
    rcases Nat.lt_or_ge maxLen s.size with hlt | hge
    · exfalso
      rw [keyOf_string Tryz.underlying9] at h
      simp [mapKey, Lit.wf] at h
      omega
    · exact hge
  have h2 := keyOf_string_mk (P := Tryz.prog) Tryz.underlying9 hz
  rw [h2] at h
  injection h with h
  exact ⟨s.data.toList, by unfold StrOk; rw [← size_toList]; exact hz, by show _ = Value.string (bs s.data.toList); rw [bs_of], h.symm⟩
theorem strRd : KeyRd Tryz.prog 9 strLit bytesBefore StrOk StrOk strV where
  emb := strEmb
  law := lawStr
  key := strKey
  inv := strKey_inv
  kinj := fun {x y} h => by
    injection h with h
    have := congrArg (fun b => b.data.toList) h
    simpa [bs_toList] using this
  lit := fun _ => trivial
theorem idRd : KeyRd Tryz.prog 47 idLit lesser IdOk0 IdOk idV where
  emb := idEmb
  law := lawI
  key := keyI
  inv := keyI_inv
  kinj := idV_inj
  lit := fun _ => trivial
/-! ### what the maps hold -/
structure FE where
  r : Rcp
  sl : Value
structure BE where
  L : HldL
  b : Nat
  mb : Nat
def feV (e : FE) : Value := .agg #[VT e.r.name, .int .i64 e.r.len, .int .u32 (e.r.print : Int), e.sl]
def beV (e : BE) : Value := .pointer (some ⟨e.b, 0, none⟩)
theorem zeroFE (w : World) : (zeroValue 65).run Tryz.prog w = .ok (.agg #[.string ByteArray.empty, .int .i64 0, .int .u32 0, .slice none 0 0]) w := by kernel_rfl
theorem zeroBE (w : World) : (zeroValue 42).run Tryz.prog w = .ok (.pointer none) w := by kernel_rfl
abbrev FL := List (Bytes × FE)
abbrev BL := List (Idn × BE)
/-- a node in block n, its maps in blocks fm and bm -/
structure ONode (n fm bm : Nat) (F : FL) (B : BL) (w : World) : Prop where
  row : w.heap[n]? = some (.cells #[.map (some fm), .map (some bm)] 105 (0, 0))
  files : AlMap Tryz.prog 9 strLit feV fm F w
  bins : AlMap Tryz.prog 47 idLit beV bm B w
  rd : ∀ q ∈ F, RdI w w.heap.size q.2.sl q.2.r.ids
  bin : ∀ q ∈ B, OBin q.2.b q.2.mb q.2.L w
  nd : (fm :: bm :: B.map (fun q => q.2.mb)).Nodup
def plainNode (F : FL) (B : BL) : PNode := ⟨alMap FE.r F, alMap BE.L B⟩
/-- the blocks on which a node stands -/
def nodeFoot (n fm bm : Nat) (F : FL) (B : BL) : Foot :=
  ⟨fun k => k = fm ∨ k = bm ∨ ∃ q ∈ B, q.2.mb = k, fun k => k = n ∨ (∃ q ∈ B, q.2.b = k) ∨ ∃ q ∈ F, q.2.sl.ownBlock = some k ∧ q.2.r.ids ≠ []⟩
def NodeIs (n : Nat) (P : PNode) (f : Foot) (w : World) : Prop := ∃ fm bm F B, ONode n fm bm F B w ∧ plainNode F B = P ∧ nodeFoot n fm bm F B = f
theorem ONode.nlt {n fm bm : Nat} {F : FL} {B : BL} {w : World} (h : ONode n fm bm F B w) : n < w.heap.size := (Array.getElem?_eq_some_iff.1 h.row).1
theorem ONode.c0 {n fm bm : Nat} {F : FL} {B : BL} {w : World} (h : ONode n fm bm F B w) : w.cell? ⟨n, 0, none⟩ = some (.map (some fm)) := by rw [cell_of_row w n 0 _ _ _ h.row]; rfl
theorem ONode.c1 {n fm bm : Nat} {F : FL} {B : BL} {w : World} (h : ONode n fm bm F B w) : w.cell? ⟨n, 1, none⟩ = some (.map (some bm)) := by rw [cell_of_row w n 1 _ _ _ h.row]; rfl
theorem RdI.keepF {w w' : World} {v : Value} {L : IdL} (h : RdI w w.heap.size v L) (hz : w.heap.size ≤ w'.heap.size) (hk : ∀ k, v.ownBlock = some k → L ≠ [] → k < w.heap.size → w'.heap[k]? = w.heap[k]?) : RdI w' w'.heap.size v L := by
  obtain ⟨A, c, hv, hl, hc, hx⟩ := h
  refine ⟨A, c, hv, hl, hc, fun h0 => ?_⟩
  obtain ⟨g, o, hA, hg, hcell⟩ := hx h0
  subst hA; subst hv
  exact ⟨g, o, rfl, by omega, fun k u hu => (World.cell?_of_block (a := ⟨g, o + k, none⟩) (hk g rfl (fun e => by rw [e] at h0; exact absurd h0 (by simp [idRow])) hg)).trans (hcell k u hu)⟩
theorem ONode.lt {n fm bm : Nat} {F : FL} {B : BL} {w : World} (h : ONode n fm bm F B w) : ∀ k, (nodeFoot n fm bm F B).S k → k < w.heap.size := fun k hk => by
  rcases hk with rfl | rfl | ⟨q, hq, rfl⟩
  · exact h.files.blt
  · exact h.bins.blt
  · exact (h.bin q hq).map.lt
theorem ONode.ltB {n fm bm : Nat} {F : FL} {B : BL} {w : World} (h : ONode n fm bm F B w) : ∀ q ∈ B, q.2.b < w.heap.size := fun q hq => (h.bin q hq).lt
/-- a node stands when its blocks do -/
theorem ONode.keepH {n fm bm : Nat} {F : FL} {B : BL} {w w' : World} (h : ONode n fm bm F B w) (hz : w.heap.size ≤ w'.heap.size) (hk : ∀ k, k < w.heap.size → ((nodeFoot n fm bm F B).S k ∨ (nodeFoot n fm bm F B).R k) → w'.heap[k]? = w.heap[k]?) : ONode n fm bm F B w' where
  row := (hk n h.nlt (.inr (.inl rfl))).trans h.row
  files := h.files.keep (hk fm h.files.blt (.inl (.inl rfl)))
  bins := h.bins.keep (hk bm h.bins.blt (.inl (.inr (.inl rfl))))
  rd := fun q hq => (h.rd q hq).keepF hz fun k e hne hlt => hk k hlt (.inr (.inr (.inr ⟨q, hq, e, hne⟩)))
  bin := fun q hq => (h.bin q hq).keep (hk q.2.b (h.bin q hq).lt (.inr (.inr (.inl ⟨q, hq, rfl⟩)))) (hk q.2.mb (h.bin q hq).map.lt (.inl (.inr (.inr ⟨q, hq, rfl⟩))))
  nd := h.nd
theorem ONode.below {n fm bm : Nat} {F : FL} {B : BL} {w w' : World} (h : ONode n fm bm F B w) (hb : Below w.heap.size w w') : ONode n fm bm F B w' := h.keepH hb.size fun k hk _ => hb.block k hk
end Go.Proofs.YtpanoplcamdnkaaGreatDoor
/- An entry of a map made ahead of its store (n.files[a], n.bins[b] = x, y); cells stand while maps are written. No conditions but bounds. -/
namespace Go.Proofs.YtpanoplcamdnkaaGreatDoor
open Go.RowKit Go.Lib Go.Maps Go.WideMaps Go.ChangeMaps

def Stay (w w' : World) : Prop := ∀ p v, w.cell? p = some v → w'.cell? p = some v
theorem Stay.refl (w : World) : Stay w w := fun _ _ h => h
theorem Stay.trans {a b c : World} (h : Stay a b) (k : Stay b c) : Stay a c := fun p v hv => k p v (h p v hv)
theorem Stay.drew {a b : World} (h : Stay a b) : Stay a b.drew := h
theorem stay_setBlock {w : World} {b : Nat} {es : Array MapEntry} {clock : Nat} {o : Obj} (hb : w.heap[b]? = some (.map es clock)) : Stay w (setBlock w b o) := by
  intro p v hv
  by_cases e : p.block = b
  · exfalso
    unfold World.cell? at hv
    rw [e, hb] at hv
    simp at hv
  · rw [← hv]
    exact World.cell?_of_block (by unfold setBlock; simp [Array.getElem?_setIfInBounds, Ne.symm e])
section
variable {K V : Type} {P : Program} {k : TypeId} {lit : K → Lit} {lt : K → K → Bool} {ok okw : K → Prop} {kv : K → Value} [DecidableEq K]
theorem AlMap.entry (R : KeyRd P k lit lt ok okw kv) (KL : KeyLaw P k) {f : V → Value} {mb : Nat} {L : List (K × V)} {w : World} (h : AlMap P k lit f mb L w) (hs : AlSrt lt L) (hL : ∀ p ∈ L, ok p.1) {t e : TypeId} (ht : P.underlying t = some (.map k e)) {z : Value} (hz : ∀ u : World, (zeroValue e).run P u = .ok z u) (hn : L.length < maxLen) (x : K) (v : V) (hx : ok x) :
    ∃ v0 st w1 w2, (Instr.mapEntry t (.map (some mb)) (kv x)).run P w = .ok (.tuple #[v0, goInt st]) w1 ∧ Stay w w1 ∧ (Instr.entryStore t (.map (some mb)) (goInt st) (f v)).run P w1 = .ok () w2 ∧ AlMap P k lit f mb (alPut lt x v L) w2 ∧ Stay w w2 ∧ w.grownBy w2 (some mb) ∧ w2.heap.size = w.heap.size := by
  have h0 := h
  obtain ⟨es, clock, hb, F, hsz, hD⟩ := h
  obtain ⟨v0, st, es1, clock1, h1, _, h3⟩ := Go.WideElems.entry_then_store KL ht hz hb F (R.key (R.emb.wide hx))
  obtain ⟨es2, clock2, h4, h5⟩ := h3 (setBlock w mb (.map es1 clock1)) (f v) (heap_setBlock_same hb _)
  obtain ⟨w', h6, h7, h8⟩ := World.ownsMap.store h0 R.law ht hn (R.key (R.emb.wide hx)) (show rawE (f v) = some (.held (f v), []) from rfl)
  rw [h5] at h6
  injection h6 with _ h6
  have e2 : setBlock (setBlock w mb (.map es1 clock1)) mb (.map es2 clock2) = setBlock w mb (.map es2 clock2) := by unfold setBlock; simp
  rw [e2] at h4
  refine ⟨v0, st, _, _, h1, stay_setBlock hb, h4, ?_, stay_setBlock hb, ?_, ?_⟩
  · rw [h6]; exact AlMap.put R hs hL x v hx h7
  · rw [h6]; exact h8.grown
  · simp [setBlock]
end
theorem klStr : KeyLaw Tryz.prog 9 := string_law Tryz.underlying9
theorem klId : KeyLaw Tryz.prog 47 := deep_law_laid laidOutA (m := 2) (by omega) (of_decide_eq_true (by kernel_rfl)) (by kernel_rfl) (by rw [Tryz.underlying47])
end Go.Proofs.YtpanoplcamdnkaaGreatDoor
/- Nodes in memory: walks of New, Bin, Size. No conditions but bounds. -/
namespace Go.Proofs.YtpanoplcamdnkaaGreatDoor
open Go.RowKit Go.Lib Go.Maps Go.WideMaps

/-- a node that stands on the blocks of f -/
def Node (n : Nat) (P : PNode) (f : Foot) (w : World) : Prop := Thing (NodeIs n P f) f w
theorem ONode.foot {n fm bm : Nat} {F : FL} {B : BL} {w : World} (h : ONode n fm bm F B w) : (nodeFoot n fm bm F B).lt w.heap.size := fun k hk => by
  rcases hk with hk | hk | ⟨q, hq, rfl⟩ | ⟨q, hq, hk, hne⟩
  · exact h.lt k hk
  · rw [hk]; exact h.nlt
  · exact h.ltB q hq
  · obtain ⟨A, c, hv, _, _, hx⟩ := h.rd q hq
    obtain ⟨g, o, hA, hg, _⟩ := hx (List.length_pos_iff.2 hne)
    rw [hv, hA] at hk
    injection hk with hk
    rw [← hk]; exact hg
theorem ONode.node {n fm bm : Nat} {F : FL} {B : BL} {w : World} (h : ONode n fm bm F B w) : Node n (plainNode F B) (nodeFoot n fm bm F B) w :=
  ⟨h.foot, fun _ hz hk => ⟨fm, bm, F, B, h.keepH hz (fun k _ hm => hk k hm), rfl, rfl⟩⟩
theorem Node.at {n : Nat} {P : PNode} {f : Foot} {w : World} (h : Node n P f w) : ∃ fm bm F B, ONode n fm bm F B w ∧ plainNode F B = P ∧ nodeFoot n fm bm F B = f := Thing.now h
theorem ONode.keysF {n fm bm : Nat} {F : FL} {B : BL} {w : World} (_ : ONode n fm bm F B w) (hP : NodeOk (plainNode F B)) : ∀ p ∈ F, StrOk p.1 := fun p hp => by
  have hm : (p.1, p.2.r) ∈ alMap FE.r F := List.mem_map_of_mem (f := fun p : Bytes × FE => (p.1, p.2.r)) hp
  obtain ⟨s, h1, _⟩ := hP.file p.1 p.2.r (alGet_of_mem strEmb hP.fsrt hm)
  have := isName_le h1
  unfold StrOk maxLen; omega
theorem ONode.keysB {n fm bm : Nat} {F : FL} {B : BL} {w : World} (_ : ONode n fm bm F B w) (hP : NodeOk (plainNode F B)) : ∀ p ∈ B, IdOk0 p.1 := fun p hp => by
  have hm : (p.1, p.2.L) ∈ alMap BE.L B := List.mem_map_of_mem (f := fun p : Idn × BE => (p.1, p.2.L)) hp
  exact (hP.bin p.1 p.2.L (alGet_of_mem idEmb hP.bsrt hm)).1
theorem ONode.keysFW {F : FL} {B : BL} (hP : NodeW (plainNode F B)) : ∀ p ∈ F, StrOk p.1 := fun p hp => by
  have : p.1.length ≤ 30 := (hP.fk (p.1, p.2.r) (List.mem_map_of_mem (f := fun p : Bytes × FE => (p.1, p.2.r)) hp)).1
  unfold StrOk maxLen; omega
theorem ONode.keysBW {F : FL} {B : BL} (hP : NodeW (plainNode F B)) : ∀ p ∈ B, IdOk0 p.1 := fun p hp => (hP.bk (p.1, p.2.L) (List.mem_map_of_mem (f := fun p : Idn × BE => (p.1, p.2.L)) hp)).1
theorem ONode.srtF {F : FL} {B : BL} (hP : NodeOk (plainNode F B)) : AlSrt bytesBefore F := alMap_srt.1 hP.fsrt
theorem ONode.srtB {F : FL} {B : BL} (hP : NodeOk (plainNode F B)) : AlSrt lesser B := alMap_srt.1 hP.bsrt
set_option maxRecDepth 100000 in
theorem NdNew_any (w : World) : Calls Tryz.prog 11 #[] w fun e w' => ∃ n f, e = .returned (.pointer (some ⟨n, 0, none⟩)) ∧ Node n ⟨[], []⟩ f w' ∧ f.ge w.heap.size ∧ Below w.heap.size w w' := by
  have hmm := @run_makeMap Tryz.prog
  go_enter Tryz.func11, Tryz.ntmps11
  go_wp2
  go_ret
  have h1 : AlMap Tryz.prog 9 strLit feV w.heap.size ([] : FL) (w.alloc (.map #[] 0)) := AlMap.made w feV
  have h2 : AlMap Tryz.prog 47 idLit beV (w.alloc (.map #[] 0)).heap.size ([] : BL) ((w.alloc (.map #[] 0)).alloc (.map #[] 0)) := AlMap.made _ beV
  have hb1 : Below (w.alloc (.map #[] 0)).heap.size (w.alloc (.map #[] 0)) ((w.alloc (.map #[] 0)).alloc (.map #[] 0)) := (Below.refl _ _).alloc (Nat.le_refl _) _
  have h1' := h1.below hb1
  have hs1 : (w.alloc (.map #[] 0)).heap.size = w.heap.size + 1 := by simp
  have hs2 : ((w.alloc (.map #[] 0)).alloc (.map #[] 0)).heap.size = w.heap.size + 2 := by simp
  rw [hs1] at h2
  have hn := heap_alloc_new ((w.alloc (.map #[] 0)).alloc (.map #[] 0)) (.cells #[.map (some w.heap.size), .map (some (w.heap.size + 1))] 105)
  rw [hs2] at hn
  have hb2 : Below ((w.alloc (.map #[] 0)).alloc (.map #[] 0)).heap.size ((w.alloc (.map #[] 0)).alloc (.map #[] 0)) (((w.alloc (.map #[] 0)).alloc (.map #[] 0)).alloc (.cells #[.map (some w.heap.size), .map (some (w.heap.size + 1))] 105)) := (Below.refl _ _).alloc (Nat.le_refl _) _
  have ho : ONode (w.heap.size + 2) w.heap.size (w.heap.size + 1) [] [] (((w.alloc (.map #[] 0)).alloc (.map #[] 0)).alloc (.cells #[.map (some w.heap.size), .map (some (w.heap.size + 1))] 105)) :=
    ⟨hn, h1'.below hb2, h2.below hb2, fun q hq => absurd hq List.not_mem_nil, fun q hq => absurd hq List.not_mem_nil, by simp⟩
  refine ⟨w.heap.size + 2, _, rfl, ho.node, fun k hk => ?_, (((Below.refl _ _).alloc (Nat.le_refl _) _).alloc (by simp) _).alloc (by simp; omega) _⟩
  rcases hk with (rfl | rfl | ⟨q, hq, _⟩) | rfl | ⟨q, hq, _⟩ | ⟨q, hq, _⟩
  all_goals first | omega | exact absurd hq List.not_mem_nil
/-- a copy of a rep's bin, or none -/
def BinPost (P : PNode) (x : Idn) (w : World) (e : Ending) (w' : World) : Prop := match alGet P.bins x with
  | none => e = .returned (.pointer none) ∧ Below w.heap.size w w'
  | some L => ∃ b2 mb2, e = .returned (.pointer (some ⟨b2, 0, none⟩)) ∧ OBin b2 mb2 L w' ∧ w.heap.size ≤ b2 ∧ w.heap.size ≤ mb2 ∧ Below w.heap.size w w'
set_option maxRecDepth 100000 in
set_option maxHeartbeats 1000000 in
theorem NdBin_any (n fm bm : Nat) (F : FL) (B : BL) (hP : NodeW (plainNode F B)) (x : Idn) (hx : IdOk x) (w : World) (h : ONode n fm bm F B w) :
    Calls Tryz.prog 48 #[.pointer (some ⟨n, 0, none⟩), idV x] w (BinPost (plainNode F B) x w) := by
  have hb0 : Below w.heap.size w (w.alloc (.cells #[.int .u32 (x.1 : Int), .int .i64 x.2] 47)) := (Below.refl _ w).alloc (Nat.le_refl _) _
  have HB0 := Lib.hid hb0
  have HN := Lib.hid (h.below hb0)
  have HX := Lib.hid (Box2.mk' w (.int .u32 (x.1 : Int)) (.int .i64 x.2) 47)
  have LK := Lib.hid (fun w' (h' : ONode n fm bm F B w') => h'.bins.at idRd (ONode.keysBW hP) Tryz.underlying103 (zeroBE w') hx)
  have hg : alGet (plainNode F B).bins x = (alGet B x).map BE.L := alGet_map _ _ _
  unfold BinPost
  rw [hg]
  cases hgb : alGet B x with
  | none =>
    rw [hgb] at LK
    clear hb0 hg hgb h hP hx
    simp only [Option.map_none, Option.getD_none] at LK ⊢
    go_enter Tryz.func48, Tryz.ntmps48
    go_wp2_with fail
    generalize w.alloc (.cells #[.int .u32 (x.1 : Int), .int .i64 x.2] 47) = w1 at *
    go_wp2
    have hS0 : Below w1.heap.size w1 w1.drew := (Below.refl _ _).drew
    refine region_S (fun w' => Below w1.heap.size w1 w') 6 (by kernel_rfl) (by kernel_rfl) ?_
    refine take_S 0 rfl (by kernel_rfl) (by kernel_rfl) hS0 (fun w' hS => by go_simp; rfl) ?_
    refine take_S 1 rfl (by kernel_rfl) (by kernel_rfl) hS0 (fun w' hS => by go_simp; rfl) ?_
    refine take_S 2 rfl (by kernel_rfl) (by kernel_rfl) hS0 (fun w' hS => by go_simp; rfl) ?_
    refine take_S 3 rfl (by kernel_rfl) (by kernel_rfl) hS0 (fun w' hS => by have A0 := (HN.out.below hS).c1; go_simp; rfl) ?_
    refine take_S 4 rfl (by kernel_rfl) (by kernel_rfl) hS0 (fun w' hS => by have A0 := (HX.out.below hS HX.out.lt).c0; have A1 := (HX.out.below hS HX.out.lt).c1; go_simp; rfl) ?_
    refine take_S 5 rfl (by kernel_rfl) (by kernel_rfl) hS0 (fun w' hS => by have A0 := LK.out w' (HN.out.below hS); go_simp; rfl) (forced_S (by kernel_rfl) ?_)
    try simp only [Act.put, List.getElem_toArray, List.getElem_cons_succ, List.getElem_cons_zero, List.setIfInBounds_toArray, List.set_cons_zero, List.set_cons_succ]
    simp only [List.drop_succ_cons, List.drop_zero]
    have HB1 := Lib.hid (HB0.out.trans (hS0.mono HB0.out.size))
    clear hS0
    go_wp2
    go_ret
    exact ⟨rfl, HB1.out⟩
  | some be =>
    rw [hgb] at LK
    simp only [Option.map_some, Option.getD_some] at LK ⊢
    unfold beV at LK
    have HO : Hid (∀ w', ONode n fm bm F B w' → OBin be.b be.mb be.L w') := Lib.hid (fun w' h' => h'.bin (x, be) (alGet_mem hgb))
    clear hb0 hg hgb h hP hx
    go_enter Tryz.func48, Tryz.ntmps48
    go_wp2_with fail
    generalize w.alloc (.cells #[.int .u32 (x.1 : Int), .int .i64 x.2] 47) = w1 at *
    go_wp2
    have hS0 : Below w1.heap.size w1 w1.drew := (Below.refl _ _).drew
    refine region_S (fun w' => Below w1.heap.size w1 w') 6 (by kernel_rfl) (by kernel_rfl) ?_
    refine take_S 0 rfl (by kernel_rfl) (by kernel_rfl) hS0 (fun w' hS => by go_simp; rfl) ?_
    refine take_S 1 rfl (by kernel_rfl) (by kernel_rfl) hS0 (fun w' hS => by go_simp; rfl) ?_
    refine take_S 2 rfl (by kernel_rfl) (by kernel_rfl) hS0 (fun w' hS => by go_simp; rfl) ?_
    refine take_S 3 rfl (by kernel_rfl) (by kernel_rfl) hS0 (fun w' hS => by have A0 := (HN.out.below hS).c1; go_simp; rfl) ?_
    refine take_S 4 rfl (by kernel_rfl) (by kernel_rfl) hS0 (fun w' hS => by have A0 := (HX.out.below hS HX.out.lt).c0; have A1 := (HX.out.below hS HX.out.lt).c1; go_simp; rfl) ?_
    refine take_S 5 rfl (by kernel_rfl) (by kernel_rfl) hS0 (fun w' hS => by have A0 := LK.out w' (HN.out.below hS); go_simp; rfl) (forced_S (by kernel_rfl) ?_)
    try simp only [Act.put, List.getElem_toArray, List.getElem_cons_succ, List.getElem_cons_zero, List.setIfInBounds_toArray, List.set_cons_zero, List.set_cons_succ]
    simp only [List.drop_succ_cons, List.drop_zero]
    have HN1 := Lib.hid (HN.out.below hS0)
    have HB1 := Lib.hid (HB0.out.trans (hS0.mono HB0.out.size))
    clear hS0
    go_wp2_with fail
    refine (BnCopy_any be.b be.mb be.L _ (HO.out _ HN1.out)).mono ?_
    rintro e w3 ⟨b2, mb2, rfl, ho, h1, h2, hb3⟩
    have hz := HB1.out.size
    have HB3 := Lib.hid (HB1.out.trans (hb3.mono hz))
    have HO3 := Lib.hid ho
    clear ho hb3
    go_wp2
    go_ret
    exact ⟨b2, mb2, rfl, HO3.out, Nat.le_trans hz h1, Nat.le_trans hz h2, HB3.out⟩
/-! ### the size -/
def sumA (left : Lit → Bool) (B : BL) : Int := ((B.filter fun q => !left (idLit q.1)).map fun q => sizeB q.2.L).sum
theorem sumA_cons (left : Lit → Bool) (y : Idn × BE) (r : BL) : sumA left (y :: r) = (if left (idLit y.1) = true then 0 else sizeB y.2.L) + sumA left r := by
  unfold sumA
  rw [List.filter_cons]
  cases left (idLit y.1) <;> simp
theorem sumA_start {B : BL} (hB : ∀ y ∈ B, IdOk0 y.1) : sumA (Maps.has (alD idLit beV B)) B = 0 := by
  have : (B.filter fun q => !Maps.has (alD idLit beV B) (idLit q.1)) = [] := by
    rw [List.filter_eq_nil_iff]
    intro q hq
    rw [has_alD idEmb beV hB (hB q hq).1]
    cases hg : alGet B q.1 with
    | some _ => simp
    | none => exact absurd rfl (alGet_none.1 hg q hq)
  unfold sumA
  rw [this]; rfl
theorem sumA_step {left : Lit → Bool} {o : Idn × BE} (ho : IdOk0 o.1) (hl : left (idLit o.1) = true) : ∀ {M : BL}, AlSrt lesser M → (∀ y ∈ M, IdOk0 y.1) →
    sumA (fun z => left z && !z.sameKey (idLit o.1)) M = sumA left M + ((alGet M o.1).map fun q => sizeB q.L).getD 0
  | [], _, _ => by simp [sumA, alGet]
  | y :: r, hs, hM => by
    obtain ⟨h1, h2⟩ := alSrt_cons.1 hs
    have ih := sumA_step ho hl h2 (fun z hz => hM z (List.mem_cons_of_mem _ hz))
    rw [sumA_cons, sumA_cons, ih, idLit_same (hM y List.mem_cons_self).1 ho.1, alGet_cons]
    by_cases e : y.1 = o.1
    · have hn : alGet r o.1 = none := alGet_none.2 fun z hz e2 => lesser_ne (h1 z hz) (e.trans e2.symm)
      rw [if_pos e, hn, e, hl]; simp; omega
    · rw [if_neg e]
      simp only [e, decide_false, Bool.not_false, Bool.and_true]
      omega
theorem sumA_end {left : Lit → Bool} {B : BL} (hl : ∀ kl, left kl = false) (F : FL) : sumA left B = sizeN (plainNode F B) := by
  unfold sumA sizeN plainNode alMap
  rw [List.filter_eq_self.2 (fun h _ => by simp [hl]), List.map_map]; rfl
theorem sumA_bound {left : Lit → Bool} {B : BL} (h : ∀ q ∈ B, 0 ≤ sizeB q.2.L ∧ sizeB q.2.L ≤ 16000) : 0 ≤ sumA left B ∧ sumA left B ≤ 16000 * B.length := by
  induction B with
  | nil => simp [sumA]
  | cons y r ih =>
    have h1 := ih (fun x hx => h x (List.mem_cons_of_mem _ hx))
    have h2 := h y List.mem_cons_self
    rw [sumA_cons, List.length_cons]
    split <;> omega
theorem NodeOk.binOf {F : FL} {B : BL} (hP : NodeOk (plainNode F B)) {q : Idn × BE} (hq : q ∈ B) : BinOk 7500 q.2.L ∧ q.2.L.length ≤ 250 ∧ 0 ≤ sizeB q.2.L ∧ sizeB q.2.L ≤ 16000 := by
  have hm : (q.1, q.2.L) ∈ alMap BE.L B := List.mem_map_of_mem (f := fun p : Idn × BE => (p.1, p.2.L)) hq
  have hg := alGet_of_mem idEmb hP.bsrt hm
  have h1 := hP.bin7 hg
  have h2 := (hP.bin _ _ hg).2.2.1
  have h3 := h1.size
  simp only at h1 h2 h3
  exact ⟨h1, h2, by omega⟩
theorem NodeOk.blenF {F : FL} {B : BL} (hP : NodeOk (plainNode F B)) : B.length ≤ 30 := by
  have h1 := hP.blen
  have h2 := hP.flen
  simp only [plainNode, alMap_length] at h1 h2
  omega
set_option maxRecDepth 100000 in
set_option maxHeartbeats 1000000 in
theorem NdSize_any (n fm bm : Nat) (F : FL) (B : BL) (hP : NodeOk (plainNode F B)) (w : World) (h : ONode n fm bm F B w) :
    Calls Tryz.prog 14 #[.pointer (some ⟨n, 0, none⟩)] w fun e w' => e = .returned (.int .i64 (sizeN (plainNode F B))) ∧ Below w.heap.size w w' := by
  have HN := Lib.hid h
  have HP := Lib.hid hP
  have HKB := Lib.hid (h.keysB hP)
  have c1 := h.c1
  have hnl := h.nlt
  have hml := h.bins.blt
  have hbl := hP.blenF
  clear h hP
  go_enter Tryz.func14, Tryz.ntmps14
  go_wp2_with (first | (at_range; refine wpList_range_own _ rfl _ 103 rfl 47 42 lawI Tryz.underlying103 rawE bm B.length (alD idLit beV B) rfl HN.out.bins ?_; intro w0 hrg0 hg0 hs0) | fail)
  go_frame
  have HRG0 := Lib.hid hrg0
  have HG0 := Lib.hid hg0
  have HS0 := Lib.hid hs0
  clear hrg0 hg0 hs0
  go_loopg [3] (Maps.size (alD idLit beV B)) (fun gh v3 wr => ∃ (left : Lit → Bool) (z : Int), wr.ranges Tryz.prog 47 rawE bm w.heap.size B.length (alD idLit beV B) left gh ∧ v3 = .int .i64 z ∧ Hid (z = sumA left B) ∧ 0 ≤ z ∧ z ≤ 16000 * (B.length : Int) ∧ Below w.heap.size w wr)
  case atStart => exact ⟨_, 0, HRG0.out, rfl, Lib.hid (sumA_start HKB.out).symm, by omega, by omega, (Below.refl _ _).grown HG0.out (Nat.le_refl _) (fun j hj => by cases hj)⟩
  case round =>
    obtain ⟨left, z, hrg, rfl, hz, hz0, hz1, hB⟩ := hrel
    go_wp2_with (first | (at_next; refine wpList_next_ranges _ rfl _ rfl 47 lawI rawE idV id idRd.mk_inv rawE_inv bm w.heap.size B.length (alD idLit beV B) left _ rfl hrg ?_ ?_) | fail)
    · intro _ hl0
      have HZ : Hid (z = sizeN (plainNode F B)) := Lib.hid (hz.out.trans (sumA_end hl0 F))
      clear hl0
      go_wp2
      go_ret
      exact ⟨by rw [HZ.out]; rfl, hB⟩
    · intro x1 x2 c kl yd yp w2 cnt2 hkey hlk hv hat hrg2 hlt hg2 hs2 hen
      obtain ⟨rfl, hx, be, hm, rfl⟩ := al_came idRd (x := (x1, x2)) HKB.out hkey hv hat
      have hq := HP.out.binOf hm
      simp only at hq
      have hok0 := HKB.out _ hm
      have hst := sumA_step (o := ((x1, x2), be)) hok0 hlk (ONode.srtB HP.out) HKB.out
      rw [alGet_of_mem idEmb (ONode.srtB HP.out) hm, ← hz.out] at hst
      simp only [Option.map_some, Option.getD_some] at hst
      have HST := Lib.hid hst
      have hbd := sumA_bound (left := fun z => left z && !z.sameKey (idLit (x1, x2))) (B := B) (fun q hq => ⟨(HP.out.binOf hq).2.2.1, (HP.out.binOf hq).2.2.2⟩)
      rw [hst] at hbd
      have hb2 : Below w.heap.size w w2 := hB.grown hg2 hB.size (fun j hj => by cases hj; exact Nat.le_refl _)
      have HB2 := Lib.hid hb2
      have HRG2 := Lib.hid hrg2
      have HSZ := Lib.hid (BnSize_any be.b be.mb be.L 7500 hq.1 (by omega) w2 ((HN.out.below hb2).bin _ hm))
      have hs1 := hq.2.2
      have hsz2 := hb2.size
      clear hkey hlk hv hat hrg2 hg2 hs2 hst hz hB hb2 hx hm hrg hq hok0
      unfold beV at *
      go_wp2_with fail
      refine HSZ.out.mono ?_
      rintro e w3 ⟨rfl, hb3⟩
      have HB3 := Lib.hid (HB2.out.trans (hb3.mono hsz2))
      have HRG3 := Lib.hid (HRG2.out.kept (gb_of_below (r := none) hb3) (by simp) (by simp))
      clear hb3
      go_wp2
      go_roundg cnt2
      case measure => exact hlt
      case rel => exact ⟨_, z + sizeB be.L, HRG3.out, rfl, Lib.hid HST.out.symm, hbd.1, hbd.2, HB3.out⟩
end Go.Proofs.YtpanoplcamdnkaaGreatDoor
/- Nodes in memory: what a node is once a map of it was written. No conditions. -/
namespace Go.Proofs.YtpanoplcamdnkaaGreatDoor
open Go.RowKit Go.Lib Go.Maps Go.WideMaps

theorem RdI.stay {w w' : World} {B : Nat} {v : Value} {L : IdL} (h : RdI w B v L) (hs : Stay w w') : RdI w' B v L := by
  obtain ⟨A, c, hv, hl, hc, hx⟩ := h
  refine ⟨A, c, hv, hl, hc, fun h0 => ?_⟩
  obtain ⟨g, o, hA, hg, hcell⟩ := hx h0
  exact ⟨g, o, hA, hg, fun k u hu => hs _ _ (hcell k u hu)⟩
section
variable {K V U : Type} [DecidableEq K] {lt : K → K → Bool}
theorem alPut_map_mem (g : V → U) {k : K} {v : V} {L : List (K × V)} {u : U} (h : u ∈ (alPut lt k v L).map (fun q => g q.2)) : u = g v ∨ u ∈ L.map (fun q => g q.2) := by
  obtain ⟨q, hq, rfl⟩ := List.mem_map.1 h
  rcases alPut_mem hq with rfl | hq
  · exact .inl rfl
  · exact .inr (List.mem_map_of_mem (f := fun q : K × V => g q.2) hq)
theorem alPut_map_nodup (g : V → U) {k : K} {v : V} : ∀ {L : List (K × V)}, (L.map (fun q => g q.2)).Nodup → g v ∉ L.map (fun q => g q.2) → ((alPut lt k v L).map (fun q => g q.2)).Nodup
  | [], _, _ => by simp [alPut]
  | y :: r, hn, hv => by
    rw [List.map_cons, List.nodup_cons] at hn
    rw [List.map_cons, List.mem_cons, not_or] at hv
    unfold alPut
    split
    · rw [List.map_cons, List.nodup_cons]; exact ⟨hv.2, hn.2⟩
    · split
      · rw [List.map_cons, List.map_cons, List.nodup_cons, List.nodup_cons, List.mem_cons, not_or]; exact ⟨hv, hn⟩
      · rw [List.map_cons, List.nodup_cons]
        refine ⟨fun hm => ?_, alPut_map_nodup g hn.2 hv.2⟩
        rcases alPut_map_mem g hm with e | e
        · exact hv.1 e.symm
        · exact hn.1 e
theorem alDel_put (k : K) (v : V) : ∀ (L : List (K × V)), alDel k (alPut lt k v L) = alDel k L
  | [] => by simp [alPut, alDel]
  | y :: r => by
    unfold alPut
    by_cases e : y.1 = k
    · rw [if_pos e]; unfold alDel; simp [e]
    · rw [if_neg e]
      split
      · unfold alDel; simp
      · have := alDel_put k v r
        unfold alDel at this ⊢
        rw [List.filter_cons, List.filter_cons, this]
end
theorem ONode.cells_ne {n fm bm : Nat} {F : FL} {B : BL} {w : World} (h : ONode n fm bm F B w) {k : Nat} (hk : ∃ cs t z, w.heap[k]? = some (.cells cs t z)) : k ≠ fm ∧ k ≠ bm := by
  obtain ⟨cs, t, z, hk⟩ := hk
  obtain ⟨e1, c1, h1⟩ := h.files.isMap
  obtain ⟨e2, c2, h2⟩ := h.bins.isMap
  refine ⟨fun e => ?_, fun e => ?_⟩
  · rw [e, h1] at hk; cases hk
  · rw [e, h2] at hk; cases hk
theorem ONode.setF {n fm bm : Nat} {F F' : FL} {B : BL} {w w' : World} (h : ONode n fm bm F B w) (hg : w.grownBy w' (some fm)) (hs : Stay w w') (hm : AlMap Tryz.prog 9 strLit feV fm F' w') (hr : ∀ q ∈ F', q ∈ F ∨ RdI w' w'.heap.size q.2.sl q.2.r.ids) : ONode n fm bm F' B w' := by
  have hnd := h.nd
  rw [List.nodup_cons, List.nodup_cons] at hnd
  have ne : ∀ {k : Nat}, k ≠ fm → some k ≠ some fm := fun hk e => hk (by injection e)
  refine ⟨(hg.block n h.nlt (ne (h.cells_ne ⟨_, _, _, h.row⟩).1)).trans h.row, hm, h.bins.keep (hg.block bm h.bins.blt (ne fun e => hnd.1 (by rw [e]; exact List.mem_cons_self))), fun q hq => ?_, fun q hq => ?_, h.nd⟩
  · rcases hr q hq with h1 | h1
    · exact ((h.rd q h1).stay hs).more hg.size
    · exact h1
  · have ho := h.bin q hq
    exact ho.keep (hg.block _ ho.lt (ne (h.cells_ne ⟨_, _, _, ho.row⟩).1)) (hg.block _ ho.map.lt (ne fun e => hnd.1 (List.mem_cons_of_mem _ (e ▸ List.mem_map_of_mem (f := fun q : Idn × BE => q.2.mb) hq))))
theorem ONode.setB {n fm bm : Nat} {F : FL} {B B' : BL} {w w' : World} (h : ONode n fm bm F B w) (hg : w.grownBy w' (some bm)) (hs : Stay w w') (hm : AlMap Tryz.prog 47 idLit beV bm B' w') (hr : ∀ q ∈ B', q ∈ B ∨ OBin q.2.b q.2.mb q.2.L w') (hnd' : (fm :: bm :: B'.map (fun q => q.2.mb)).Nodup) : ONode n fm bm F B' w' := by
  have hnd := h.nd
  rw [List.nodup_cons, List.nodup_cons] at hnd
  have ne : ∀ {k : Nat}, k ≠ bm → some k ≠ some bm := fun hk e => hk (by injection e)
  refine ⟨(hg.block n h.nlt (ne (h.cells_ne ⟨_, _, _, h.row⟩).2)).trans h.row, h.files.keep (hg.block fm h.files.blt (ne fun e => hnd.1 (by rw [← e]; exact List.mem_cons_self))), hm, fun q hq => ((h.rd q hq).stay hs).more hg.size, fun q hq => ?_, hnd'⟩
  rcases hr q hq with h1 | h1
  · have ho := h.bin q h1
    exact ho.keep (hg.block _ ho.lt (ne (h.cells_ne ⟨_, _, _, ho.row⟩).2)) (hg.block _ ho.map.lt (ne fun e => hnd.2.1 (e ▸ List.mem_map_of_mem (f := fun q : Idn × BE => q.2.mb) h1)))
  · exact h1
/-- the blocks of a node into which a file was put -/
theorem foot_put {n fm bm : Nat} {F : FL} {B : BL} {nm : Bytes} {fe : FE} {x : Idn} {be : BE} {b : Nat} (h1 : ∀ k, fe.sl.ownBlock = some k → fe.r.ids ≠ [] → b ≤ k) (h2 : b ≤ be.b) (h3 : b ≤ be.mb) :
    (nodeFoot n fm bm F B).new (nodeFoot n fm bm (alPut bytesBefore nm fe F) (alPut lesser x be B)) b := fun k => by
  refine ⟨?_, ?_⟩
  · rintro (rfl | rfl | ⟨q, hq, rfl⟩)
    · exact .inl (.inl rfl)
    · exact .inl (.inr (.inl rfl))
    · rcases alPut_mem hq with rfl | hq
      · exact .inr h3
      · exact .inl (.inr (.inr ⟨q, hq, rfl⟩))
  · rintro (rfl | ⟨q, hq, rfl⟩ | ⟨q, hq, e, hne⟩)
    · exact .inl (.inl rfl)
    · rcases alPut_mem hq with rfl | hq
      · exact .inr h2
      · exact .inl (.inr (.inl ⟨q, hq, rfl⟩))
    · rcases alPut_mem hq with rfl | hq
      · exact .inr (h1 k e hne)
      · exact .inl (.inr (.inr ⟨q, hq, e, hne⟩))
theorem RdB.above {w : World} {lo hi : Nat} {v : Value} {L : IdL} (h : RdB w lo hi v L) : ∀ k, v.ownBlock = some k → L ≠ [] → lo ≤ k := fun k e hne => by
  obtain ⟨A, c, hv, _, hx⟩ := h
  obtain ⟨g, o, hA, h1, _⟩ := hx (List.length_pos_iff.2 hne)
  rw [hv, hA] at e
  injection e with e
  rw [← e]; exact h1
end Go.Proofs.YtpanoplcamdnkaaGreatDoor

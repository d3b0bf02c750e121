/- NcA, NcB in one text. Conditions: as each part says. -/
import Derived.Test.YtpanoplcamdnkaaGreatDoorPln3
import Derived.Test.YtpanoplcamdnkaaGreatDoorNod3
/- Plain words: sorted lists that answer the same are the same; a list put together by putting. No program in sight. No conditions. -/
namespace Go.Proofs.YtpanoplcamdnkaaGreatDoor
open Go.Maps Go.Lib

section
variable {K V : Type} [DecidableEq K] {lit : K → Lit} {lt : K → K → Bool} {ok okw : K → Prop}
theorem al_above (E : KeyEmb lit lt ok okw) {y : K × V} {r : List (K × V)} (h : ∀ p ∈ r, lt y.1 p.1 = true) {x : K} (hx : x = y.1 ∨ lt x y.1 = true) : alGet r x = none := alGet_none.2 fun p hp e => by
  have h1 := h p hp
  rw [e] at h1
  rcases hx with rfl | hx
  · rw [E.irr] at h1; cases h1
  · have := E.trans hx h1
    rw [E.irr] at this; cases this
theorem al_ext (E : KeyEmb lit lt ok okw) : ∀ {L M : List (K × V)}, AlSrt lt L → AlSrt lt M → (∀ x, alGet L x = alGet M x) → L = M
  | [], [], _, _, _ => rfl
  | [], z :: s, _, _, h => by
    have := h z.1
    rw [alGet_cons, if_pos rfl] at this; cases this
  | y :: r, [], _, _, h => by
    have := h y.1
    rw [alGet_cons, if_pos rfl] at this; cases this
  | y :: r, z :: s, hy, hz, h => by
    obtain ⟨a1, a2⟩ := alSrt_cons.1 hy
    obtain ⟨b1, b2⟩ := alSrt_cons.1 hz
    have hk : y.1 = z.1 := Decidable.byContradiction fun hne => by
      rcases E.total hne with hl | hl
      · have h1 := h y.1
        rw [alGet_cons, if_pos rfl, alGet_cons, if_neg (fun e => hne e.symm), al_above E b1 (.inr hl)] at h1; cases h1
      · have h1 := h z.1
        rw [alGet_cons, if_neg hne, alGet_cons, if_pos rfl, al_above E a1 (.inr hl)] at h1; cases h1
    have hv : y.2 = z.2 := by
      have h1 := h y.1
      rw [alGet_cons, if_pos rfl, alGet_cons, if_pos hk.symm] at h1
      injection h1
    have ht : r = s := al_ext E a2 b2 fun x => by
      by_cases hx : x = y.1
      · rw [al_above E a1 (.inl hx), al_above E b1 (.inl (hx.trans hk))]
      · have h1 := h x
        rwa [alGet_cons, if_neg (fun e => hx e.symm), alGet_cons, if_neg (fun e => hx (hk.trans e).symm)] at h1
    rw [ht, show y = z from Prod.ext hk hv]
/-- a list put together, one behind the other -/
def putUp (lt : K → K → Bool) (os : List (K × V)) : List (K × V) := os.foldl (fun C q => alPut lt q.1 q.2 C) []
theorem putUp_snoc (os : List (K × V)) (q : K × V) : putUp lt (os ++ [q]) = alPut lt q.1 q.2 (putUp lt os) := by unfold putUp; rw [List.foldl_append]; rfl
theorem putUp_srt (E : KeyEmb lit lt ok okw) (os : List (K × V)) : AlSrt lt (putUp lt os) := by
  unfold putUp
  suffices h : ∀ C : List (K × V), AlSrt lt C → AlSrt lt (os.foldl (fun C q => alPut lt q.1 q.2 C) C) from h [] alSrt_nil
  induction os with
  | nil => exact fun C h => h
  | cons q r ih => exact fun C h => ih _ (alSrt_put E h _ _)
theorem putUp_get : ∀ {os : List (K × V)}, (os.map (·.1)).Nodup → ∀ x, alGet (putUp lt os) x = alGet os x := by
  intro os
  unfold putUp
  suffices h : ∀ C : List (K × V), (os.map (·.1)).Nodup → ∀ x, alGet (os.foldl (fun C q => alPut lt q.1 q.2 C) C) x = (alGet os x).or (alGet C x) from fun hn x => by rw [h [] hn x, alGet_nil]; cases alGet os x <;> rfl
  induction os with
  | nil => intro C _ x; rw [alGet_nil]; rfl
  | cons q r ih =>
    intro C hn x
    rw [List.map_cons, List.nodup_cons] at hn
    rw [List.foldl_cons, ih _ hn.2, alGet_put, alGet_cons]
    by_cases hq : q.1 = x
    · rw [if_pos hq, if_pos hq]
      have : alGet r x = none := alGet_none.2 fun p hp e => hn.1 (by rw [hq, ← e]; exact List.mem_map_of_mem (f := fun p : K × V => p.1) hp)
      rw [this]; rfl
    · rw [if_neg hq, if_neg hq]
/-- put together in any order, it is the sorted list -/
theorem putUp_perm (E : KeyEmb lit lt ok okw) {os L : List (K × V)} (hs : AlSrt lt L) (hp : os.Perm L) : putUp lt os = L := by
  have hn : (os.map (·.1)).Nodup := (hp.map _).nodup_iff.2 (al_nodup E hs)
  refine al_ext E (putUp_srt E os) hs fun x => ?_
  rw [putUp_get hn]
  cases hg : alGet L x with
  | none =>
    exact alGet_none.2 fun p hp2 => alGet_none.1 hg p (hp.mem_iff.1 hp2)
  | some v =>
    cases ho : alGet os x with
    | none =>
      obtain ⟨p, hp1, hp2⟩ : ∃ p ∈ L, p = (x, v) := by
        unfold alGet at hg
        cases hf : L.find? (fun p => decide (p.1 = x)) with
        | none => rw [hf] at hg; cases hg
        | some p =>
          rw [hf] at hg
          injection hg with hg
          have hk : p.1 = x := by simpa using List.find?_some hf
          exact ⟨p, List.mem_of_find?_eq_some hf, Prod.ext hk hg⟩
      exact absurd (by rw [hp2]) (alGet_none.1 ho p (hp.mem_iff.2 hp1))
    | some u =>
      unfold alGet at hg ho
      cases hf : L.find? (fun p => decide (p.1 = x)) with
      | none => rw [hf] at hg; cases hg
      | some p =>
        cases hf2 : os.find? (fun p => decide (p.1 = x)) with
        | none => rw [hf2] at ho; cases ho
        | some p2 =>
          have m1 := List.mem_of_find?_eq_some hf
          have m2 := hp.mem_iff.1 (List.mem_of_find?_eq_some hf2)
          have k1 : p.1 = x := by simpa using List.find?_some hf
          have k2 : p2.1 = x := by simpa using List.find?_some hf2
          have g1 := alGet_of_mem E hs m1
          have g2 := alGet_of_mem E hs m2
          rw [k1] at g1; rw [k2, g1] at g2
          rw [hf] at hg; rw [hf2] at ho
          injection hg with hg; injection ho with ho; injection g2 with g2
          rw [← hg, ← ho]
          exact congrArg some g2.symm
end
end Go.Proofs.YtpanoplcamdnkaaGreatDoor
/- Nodes in memory: walk of Copy. No conditions but bounds. -/
namespace Go.Proofs.YtpanoplcamdnkaaGreatDoor
open Go.RowKit Go.Lib Go.Maps Go.WideMaps

theorem putUp_map {K V U : Type} [DecidableEq K] (lt : K → K → Bool) (f : V → U) (os : List (K × V)) : alMap f (putUp lt os) = putUp lt (alMap f os) := by
  unfold putUp
  suffices h : ∀ C : List (K × V), alMap f (os.foldl (fun C q => alPut lt q.1 q.2 C) C) = (alMap f os).foldl (fun C q => alPut lt q.1 q.2 C) (alMap f C) from h []
  induction os with
  | nil => exact fun C => rfl
  | cons q r ih =>
    intro C
    show alMap f (r.foldl _ (alPut lt q.1 q.2 C)) = (alMap f r).foldl _ (alPut lt q.1 (f q.2) (alMap f C))
    rw [ih, alMap_put]
theorem putUp_mem {K V : Type} [DecidableEq K] {lt : K → K → Bool} {os : List (K × V)} {x : K × V} (h : x ∈ putUp lt os) : x ∈ os := by
  unfold putUp at h
  suffices hh : ∀ (os C : List (K × V)), x ∈ os.foldl (fun C q => alPut lt q.1 q.2 C) C → x ∈ os ∨ x ∈ C from (hh os [] h).elim id (fun h => absurd h List.not_mem_nil)
  intro os
  induction os with
  | nil => exact fun C h => .inr h
  | cons q r ih =>
    intro C h
    rcases ih _ h with h | h
    · exact .inl (List.mem_cons_of_mem _ h)
    · rcases alPut_mem h with e | e
      · exact .inl (by rw [e]; exact List.mem_cons_self)
      · exact .inr e
theorem putUp_len {K V : Type} [DecidableEq K] {lt : K → K → Bool} : ∀ {os : List (K × V)}, (putUp lt os).length ≤ os.length := by
  intro os
  unfold putUp
  suffices hh : ∀ (os C : List (K × V)), (os.foldl (fun C q => alPut lt q.1 q.2 C) C).length ≤ os.length + C.length from by have := hh os []; simpa using this
  intro os
  induction os with
  | nil => exact fun C => by simp
  | cons q r ih =>
    intro C
    have h1 := ih (alPut lt q.1 q.2 C)
    have h2 := alPut_length_le (lt := lt) (k := q.1) (v := q.2) (L := C)
    rw [List.foldl_cons, List.length_cons]; omega
theorem alPut_perm {K V : Type} [DecidableEq K] {lt : K → K → Bool} {k : K} {v : V} : ∀ {L : List (K × V)}, (∀ p ∈ L, p.1 ≠ k) → (alPut lt k v L).Perm ((k, v) :: L)
  | [], _ => List.Perm.refl _
  | y :: r, h => by
    unfold alPut
    rw [if_neg (h y List.mem_cons_self)]
    split
    · exact List.Perm.refl _
    · exact ((alPut_perm fun p hp => h p (List.mem_cons_of_mem _ hp)).cons y).trans (List.Perm.swap _ _ _)
theorem putUp_permL {K V : Type} [DecidableEq K] {lt : K → K → Bool} {os : List (K × V)} (h : (os.map (·.1)).Nodup) : (putUp lt os).Perm os := by
  unfold putUp
  suffices hh : ∀ (os C : List (K × V)), (os.map (·.1)).Nodup → (∀ q ∈ os, ∀ p ∈ C, p.1 ≠ q.1) → (os.foldl (fun C q => alPut lt q.1 q.2 C) C).Perm (os ++ C) from by
    have := hh os [] h (fun _ _ p hp => absurd hp List.not_mem_nil)
    rw [List.append_nil] at this; exact this
  intro os
  induction os with
  | nil => exact fun C _ _ => List.Perm.refl _
  | cons q r ih =>
    intro C hn hd
    rw [List.map_cons, List.nodup_cons] at hn
    have hp := alPut_perm (lt := lt) (k := q.1) (v := q.2) (L := C) (fun p hp => hd q List.mem_cons_self p hp)
    refine (ih _ hn.2 fun z hz p hp2 => ?_).trans ?_
    · rcases alPut_mem hp2 with e | e
      · subst e
        exact fun e => hn.1 (by show q.1 ∈ _; rw [show q.1 = z.1 from e]; exact List.mem_map_of_mem (f := fun z : K × V => z.1) hz)
      · exact hd z (List.mem_cons_of_mem _ hz) p e
    · exact ((List.Perm.refl r).append hp).trans List.perm_middle
/-- a map of bins that is put together: its block mk, its entries in the order in which they came, all from lo on -/
structure CpSt (lo mk : Nat) (os : BL) (w : World) : Prop where
  map : AlMap Tryz.prog 47 idLit beV mk (putUp lesser os) w
  bin : ∀ q ∈ os, OBin q.2.b q.2.mb q.2.L w ∧ lo ≤ q.2.b ∧ lo ≤ q.2.mb
  nd : (mk :: os.map (fun q => q.2.mb)).Nodup
  key : ∀ q ∈ os, IdOk0 q.1
theorem CpSt.keepH {lo mk : Nat} {os : BL} {w w' : World} (h : CpSt lo mk os w) (hk : ∀ k, k < w.heap.size → (k = mk ∨ lo ≤ k) → w'.heap[k]? = w.heap[k]?) : CpSt lo mk os w' :=
  ⟨h.map.keep (hk mk h.map.blt (.inl rfl)), fun q hq => by
    obtain ⟨h1, h2, h3⟩ := h.bin q hq
    exact ⟨h1.keep (hk _ h1.lt (.inr h2)) (hk _ h1.map.lt (.inr h3)), h2, h3⟩, h.nd, h.key⟩
theorem CpSt.below {lo mk : Nat} {os : BL} {w w' : World} (h : CpSt lo mk os w) (hb : Below w.heap.size w w') : CpSt lo mk os w' := h.keepH fun k hk _ => hb.block k hk
theorem CpSt.cur {lo mk c : Nat} {os : BL} {w w' : World} (h : CpSt lo mk os w) (hg : w.grownBy w' (some c)) (h1 : mk ≠ c) (h2 : c < lo) : CpSt lo mk os w' := h.keepH fun k hk hm => hg.block k hk (fun e => by
  injection e with e
  rcases hm with rfl | hm
  · exact h1 e
  · omega)
theorem CpSt.step {lo mk b2 mb2 : Nat} {os : BL} {x : Idn} {L : HldL} {w w1 w2 : World} (h : CpSt lo mk os w) (hx : IdOk0 x) (hb : Below w.heap.size w w1) (hlo : lo ≤ w.heap.size) (ho : OBin b2 mb2 L w1) (h1 : w.heap.size ≤ b2) (h2 : w.heap.size ≤ mb2)
    (hm : AlMap Tryz.prog 47 idLit beV mk (alPut lesser x ⟨L, b2, mb2⟩ (putUp lesser os)) w2) (hg : w1.grownBy w2 (some mk)) : CpSt lo mk (os ++ [(x, ⟨L, b2, mb2⟩)]) w2 := by
  have hmk := h.map.blt
  have far : ∀ {k : Nat}, k ≠ mk → some k ≠ some mk := fun hn e => hn (by injection e)
  have hmb : ∀ q ∈ os, q.2.mb ≠ mk := fun q hq e => by
    have := (List.nodup_cons.1 h.nd).1
    rw [← e] at this
    exact this (List.mem_map_of_mem (f := fun q : Idn × BE => q.2.mb) hq)
  have cne : ∀ {k : Nat} {cs t z}, w1.heap[k]? = some (.cells cs t z) → k ≠ mk := fun {k cs t z} hk e => by
    obtain ⟨es, clock, e1⟩ := (h.below hb).map.isMap
    rw [e, e1] at hk; cases hk
  refine ⟨?_, fun q hq => ?_, ?_, fun q hq => ?_⟩
  · rw [putUp_snoc]; exact hm
  · rcases List.mem_append.1 hq with hq | hq
    · obtain ⟨q1, q2, q3⟩ := (h.below hb).bin q hq
      exact ⟨q1.keep (hg.block _ q1.lt (far (cne q1.row))) (hg.block _ q1.map.lt (far (hmb q hq))), q2, q3⟩
    · rw [List.mem_singleton.1 hq]
      exact ⟨ho.keep (hg.block _ ho.lt (far (by omega))) (hg.block _ ho.map.lt (far (by omega))), Nat.le_trans hlo h1, Nat.le_trans hlo h2⟩
  · rw [List.map_append, ← List.cons_append]
    refine List.nodup_append.2 ⟨h.nd, by simp, fun a ha b hb e => ?_⟩
    have hb' : b = mb2 := by simpa using hb
    rcases List.mem_cons.1 ha with e2 | ha
    · omega
    · obtain ⟨q, hq, e2⟩ := List.mem_map.1 ha
      have := (h.bin q hq).1.map.lt
      have e2 : q.2.mb = a := e2
      omega
  · rcases List.mem_append.1 hq with hq | hq
    · exact h.key q hq
    · rw [List.mem_singleton.1 hq]; exact hx
def CopyPost (n fm bm : Nat) (F : FL) (B : BL) (w : World) (e : Ending) (w' : World) : Prop :=
  ∃ n2 f2, e = .returned (.pointer (some ⟨n2, 0, none⟩)) ∧ Node n2 (plainNode F B) f2 w' ∧ (∀ k, f2.S k → w.heap.size ≤ k) ∧ (∀ k, f2.R k → (nodeFoot n fm bm F B).R k ∨ w.heap.size ≤ k) ∧ Below w.heap.size w w'
theorem copy_end {n fm bm lo mk : Nat} {F : FL} {B C : BL} {w wr w3 : World} (hP : NodeOk (plainNode F B)) (hN : ONode n fm bm F B wr) (hb : Below w.heap.size w wr) (hC : CpSt lo mk C wr) (hlo : w.heap.size ≤ lo) (hmk : w.heap.size ≤ mk) (hc : (alMap BE.L C).Perm (alMap BE.L B)) (hm : AlMap Tryz.prog 9 strLit feV wr.heap.size F w3) (hb3 : Below wr.heap.size wr w3) :
    CopyPost n fm bm F B w (.returned (.pointer (some ⟨w3.heap.size, 0, none⟩))) (w3.alloc (.cells #[.map (some wr.heap.size), .map (some mk)] 105)) := by
  have hz := hb.size
  have hb4 : Below w3.heap.size w3 (w3.alloc (.cells #[.map (some wr.heap.size), .map (some mk)] 105)) := (Below.refl _ _).alloc (Nat.le_refl _) _
  have hC3 := (hC.below hb3).below hb4
  have hN3 := (hN.below hb3).below hb4
  have hml := hC.map.blt
  have ho : ONode w3.heap.size wr.heap.size mk F (putUp lesser C) (w3.alloc (.cells #[.map (some wr.heap.size), .map (some mk)] 105)) := by
    refine ⟨heap_alloc_new w3 _, hm.below hb4, hC3.map, hN3.rd, fun q hq => (hC3.bin q (putUp_mem hq)).1, ?_⟩
    refine List.nodup_cons.2 ⟨fun hh => ?_, ?_⟩
    · rcases List.mem_cons.1 hh with e | hh
      · omega
      · obtain ⟨q, hq, e⟩ := List.mem_map.1 hh
        have := (hC.bin q (putUp_mem hq)).1.map.lt
        have e : q.2.mb = wr.heap.size := e
        omega
    · have hkn : (C.map (·.1)).Nodup := by
        have e1 : C.map (·.1) = (alMap BE.L C).map (·.1) := by unfold alMap; rw [List.map_map]; rfl
        rw [e1]
        exact (hc.map _).nodup_iff.2 (al_nodup idEmb hP.bsrt)
      have hp : (putUp lesser C).Perm C := putUp_permL hkn
      refine List.nodup_cons.2 ⟨fun hh => (List.nodup_cons.1 hC.nd).1 ?_, ?_⟩
      · obtain ⟨q, hq, e⟩ := List.mem_map.1 hh
        exact List.mem_map.2 ⟨q, hp.mem_iff.1 hq, e⟩
      · exact (hp.map _).nodup_iff.2 (List.nodup_cons.1 hC.nd).2
  have hpl : plainNode F (putUp lesser C) = plainNode F B := by
    unfold plainNode
    rw [putUp_map, putUp_perm idEmb (L := alMap BE.L B) hP.bsrt hc]
  have hnode := ho.node
  rw [hpl] at hnode
  refine ⟨_, _, rfl, hnode, fun k hk => ?_, fun k hk => ?_, (hb.trans (hb3.mono hz)).trans (hb4.mono (Nat.le_trans hz hb3.size))⟩
  · rcases hk with rfl | rfl | ⟨q, hq, rfl⟩
    · exact hz
    · exact hmk
    · exact Nat.le_trans hlo (hC.bin q (putUp_mem hq)).2.2
  · rcases hk with rfl | ⟨q, hq, rfl⟩ | h
    · exact .inr (Nat.le_trans hz hb3.size)
    · exact .inr (Nat.le_trans hlo (hC.bin q (putUp_mem hq)).2.1)
    · exact .inl (.inr (.inr h))
set_option maxRecDepth 100000 in
set_option maxHeartbeats 2000000 in
theorem NdCopy_any (n fm bm : Nat) (F : FL) (B : BL) (hP : NodeOk (plainNode F B)) (w : World) (h : ONode n fm bm F B w) :
    Calls Tryz.prog 51 #[.pointer (some ⟨n, 0, none⟩)] w (CopyPost n fm bm F B w) := by
  have hmm := @run_makeMap Tryz.prog
  have hba : Below w.heap.size w (w.alloc (.map #[] 0)) := (Below.refl _ _).alloc (Nat.le_refl _) _
  have HBM := Lib.hid h.bins.blt
  have HFT := Lib.hid h.foot
  have HP := Lib.hid hP
  have HKB := Lib.hid (h.keysB hP)
  have HSB := Lib.hid (ONode.srtB hP)
  have HCL := Lib.hid (fun wr (hw : ONode n fm bm F B wr) => AnyW.maps_Clone_owns Tryz.clone105 9 rawE fm F.length (alD strLit feV F) wr hw.files)
  have HN1 := Lib.hid (h.below hba)
  have HBA := Lib.hid hba
  have HM1 := Lib.hid (AlMap.made (P := Tryz.prog) (k := 47) (lit := idLit) w beV)
  have c1 := (h.below hba).c1
  have hnl := h.nlt
  have hbl := hP.blenF
  have hsz1 : (w.alloc (.map #[] 0)).heap.size = w.heap.size + 1 := by simp
  clear h hP hba
  go_enter Tryz.func51, Tryz.ntmps51
  go_wp2_with (first | (at_range; refine wpList_range_own _ rfl _ 103 rfl 47 42 lawI Tryz.underlying103 rawE bm B.length (alD idLit beV B) rfl HN1.out.bins ?_; intro w0 hrg0 hg0 hs0) | fail)
  generalize w.alloc (.map #[] 0) = w1 at *
  try go_frame
  have HS1 := Lib.hid hsz1
  have HS0 := Lib.hid hs0
  clear hsz1 hs0
  have hb0 : Below w1.heap.size w1 w0 := (Below.refl _ _).grown hg0 (Nat.le_refl _) (fun j hj => by cases hj)
  have HRG0 := Lib.hid hrg0
  have HN0 := Lib.hid (HN1.out.below hb0)
  have HB0 := Lib.hid (HBA.out.trans (hb0.mono HBA.out.size))
  have HC0 : Hid (CpSt w0.heap.size w.heap.size [] w0) := Lib.hid ⟨HM1.out.below hb0, fun q hq => absurd hq List.not_mem_nil, by simp, fun q hq => absurd hq List.not_mem_nil⟩
  clear hrg0 hg0 hb0
  go_loopg [] (Maps.size (alD idLit beV B)) (fun gh wr => ∃ (left : Lit → Bool) (os C : BL), wr.ranges Tryz.prog 47 rawE bm w1.heap.size B.length (alD idLit beV B) left gh ∧ Hid (AlCame idLit B left os) ∧ Hid (CpSt w0.heap.size w.heap.size C wr) ∧ Hid (alMap BE.L C = alMap BE.L os) ∧ Hid (ONode n fm bm F B wr) ∧ Hid (Below w.heap.size w wr) ∧ w0.heap.size ≤ wr.heap.size)
  case atStart => exact ⟨_, [], [], HRG0.out, Lib.hid (AlCame.start idEmb beV HKB.out), HC0, Lib.hid rfl, HN0, HB0, Nat.le_refl _⟩
  case round =>
    obtain ⟨left, os, C, hrg, HCM, HC, HCE, HN, HB, hzr⟩ := hrel
    have c1 := HN.out.c1
    have c0 := HN.out.c0
    go_wp2_with (first | (at_next; refine wpList_next_ranges _ rfl _ rfl 47 lawI rawE idV id idRd.mk_inv rawE_inv bm w1.heap.size B.length (alD idLit beV B) left _ rfl hrg ?_ ?_) | fail)
    · intro _ hl0
      have hpm := HCM.out.perm idEmb HSB.out hl0
      have HPM : Hid ((alMap BE.L C).Perm (alMap BE.L B)) := Lib.hid (by rw [HCE.out]; exact hpm.map _)
      clear hl0 hpm
      go_wp2_with fail
      refine (HCL.out wr HN.out).mono ?_
      rintro e w3 ⟨rfl, hm3, _, hb3⟩
      have HFIN := Lib.hid (copy_end HP.out HN.out HB.out HC.out (by have := HS1.out; have := HS0.out; omega) (Nat.le_refl _) HPM.out hm3 hb3)
      clear hm3 hb3
      go_wp2
      go_ret
      exact HFIN.out
    · intro x1 x2 c kl yd yp w2 cnt2 hkey hlk hv hat hrg2 hlt hg2 hs2 hen
      obtain ⟨rfl, hx, be, hm, rfl⟩ := al_came idRd (x := (x1, x2)) HKB.out hkey hv hat
      have HCM2 := Lib.hid (HCM.out.step (o := ((x1, x2), be)) idEmb HSB.out HKB.out hm hlk)
      have HIX := Lib.hid (HKB.out _ hm)
      have hln : C.length < 30 := by
        have h1 : ((os ++ [((x1, x2), be)]).map (·.1)).length ≤ (B.map (·.1)).length := nodup_len HCM2.out.1 (fun a ha => by
          obtain ⟨o, ho, rfl⟩ := List.mem_map.1 ha
          exact List.mem_map_of_mem (HCM2.out.sub o ho))
        rw [List.length_map, List.length_map, List.length_append] at h1
        have h2 := congrArg List.length HCE.out
        rw [alMap_length, alMap_length] at h2
        have h3 : [((x1, x2), be)].length = 1 := rfl
        omega
      have hbx : Below w2.heap.size w2 (w2.alloc (.cells #[.int .u32 (x1 : Int), .int .i64 x2] 47)) := (Below.refl _ _).alloc (Nat.le_refl _) _
      have hn1 := HN1.out.foot
      have HN2 : Hid (ONode n fm bm F B w2) := Lib.hid (HN.out.keepH hg2.size (fun k hk hf => hg2.block k hk (fun e => by
        injection e with e
        have := hn1 k hf
        omega)))
      have HB2 := Lib.hid (HB.out.grown hg2 HB.out.size (fun j hj => by cases hj; have := HS1.out; omega))
      have HC3 := Lib.hid ((HC.out.cur hg2 (by have := HS1.out; omega) (by have := HS0.out; omega)).below hbx)
      have HN3 := Lib.hid (HN2.out.below hbx)
      have HB3 := Lib.hid (HB2.out.trans (hbx.mono HB2.out.size))
      have HRG3 := Lib.hid (World.ranges.kept hrg2 (gb_of_below (r := none) hbx) (by simp) (by simp))
      have HX3 := Lib.hid (Box2.mk' w2 (.int .u32 (x1 : Int)) (.int .i64 x2) 47)
      have hz3 : w0.heap.size ≤ (w2.alloc (.cells #[.int .u32 (x1 : Int), .int .i64 x2] 47)).heap.size := Nat.le_trans (Nat.le_trans hzr hg2.size) hbx.size
      have HOB3 := Lib.hid (HN3.out.bin _ hm)
      have hbm := HN3.out.bins.blt
      have hmkb : bm ≠ w.heap.size := fun e => by have := HBM.out; omega
      clear hkey hlk hv hat hrg2 hg2 hs2 hbx hx hm hrg hn1 HCM HC HN HB HN2 HB2
      unfold beV at *
      go_wp2_with fail
      generalize w2.alloc (.cells #[.int .u32 (x1 : Int), .int .i64 x2] 47) = w3 at *
      go_wp2
      have hS0 : Below w3.heap.size w3 w3.drew := (Below.refl _ _).drew
      refine region_S (fun w' => Below w3.heap.size w3 w') 4 (by kernel_rfl) (by kernel_rfl) ?_
      refine take_S 0 rfl (by kernel_rfl) (by kernel_rfl) hS0 (fun w' hS => by go_simp; rfl) ?_
      refine take_S 1 rfl (by kernel_rfl) (by kernel_rfl) hS0 (fun w' hS => by obtain ⟨A0, A1, _, _⟩ := HX3.out.below hS HX3.out.lt; go_simp; rfl) ?_
      refine take_S 2 rfl (by kernel_rfl) (by kernel_rfl) hS0 (fun w' hS => by go_simp; rfl) ?_
      refine carry_S 3 rfl (by kernel_rfl) (by decide) (by kernel_rfl) (fun K hK => ?_)
      go_simp
      refine (BnCopy_any be.b be.mb be.L _ (HOB3.out.below hS0)).mono ?_
      rintro e w4 ⟨b2, mb2, rfl, ho4, hb2g, hmb2g, hbw4⟩
      have hS1 : Below w3.heap.size w3 w4 := hS0.trans (hbw4.mono hS0.size)
      refine hK _ _ hS1 (forced_S (by kernel_rfl) ?_)
      clear hK K
      try simp only [Act.put, List.getElem_toArray, List.getElem_cons_succ, List.getElem_cons_zero, List.setIfInBounds_toArray, List.set_cons_zero, List.set_cons_succ]
      try simp only [Act.put, List.getElem_toArray, List.getElem_cons_succ, List.getElem_cons_zero, List.setIfInBounds_toArray, List.set_cons_zero, List.set_cons_succ]
      simp only [List.drop_succ_cons, List.drop_zero]
      have HC4 := Lib.hid (HC3.out.below hS1)
      have HN4 := Lib.hid (HN3.out.below hS1)
      have HB4 := Lib.hid (HB3.out.trans (hS1.mono HB3.out.size))
      have HRG4 := Lib.hid (World.ranges.kept HRG3.out (gb_of_below (r := none) hS1) (by simp) (by simp))
      have HSTP := Lib.hid (fun w5 (hm5 : AlMap Tryz.prog 47 idLit beV w.heap.size (alPut lesser (x1, x2) ⟨be.L, b2, mb2⟩ (putUp lesser C)) w5) (hg5 : w4.grownBy w5 (some w.heap.size)) => HC3.out.step HIX.out hS1 hz3 ho4 hb2g hmb2g hm5 hg5)
      go_wp2_with (first | (at_mapUpdate; refine wpList_mapUpdate_own _ rfl _ _ _ 103 rfl 47 42 lawI Tryz.underlying103 rawE w.heap.size (putUp lesser C).length (alD idLit beV (putUp lesser C)) rfl HC4.out.map (by have := putUp_len (lt := lesser) (os := C); unfold maxLen; omega) (idV (x1, x2)) _ (idLit (x1, x2)) rfl rfl (keyI HIX.out.1) (.held (beV ⟨be.L, b2, mb2⟩)) [] rfl ?_; intro w5 hown5 hg5) | fail)
      have hm5 := AlMap.put idRd (putUp_srt idEmb C) (fun p hp => HC4.out.key p (putUp_mem hp)) (x1, x2) (⟨be.L, b2, mb2⟩ : BE) HIX.out hown5
      have HC5 := Lib.hid (HSTP.out w5 hm5 hg5)
      have HRG5 := Lib.hid (World.ranges.kept HRG4.out hg5 (by intro e; injection e with e; exact hmkb e) (by intro e; injection e with e; have := HS1.out; omega))
      have HN5 : Hid (ONode n fm bm F B w5) := Lib.hid (HN4.out.keepH hg5.size (fun k hk hf => hg5.block k hk (fun e => by
        injection e with e
        have := HFT.out k hf
        omega)))
      have HB5 := Lib.hid (HB4.out.grown hg5 HB4.out.size (fun j hj => by cases hj; exact Nat.le_refl _))
      have hz5 : w0.heap.size ≤ w5.heap.size := Nat.le_trans (Nat.le_trans hz3 hS1.size) hg5.size
      have HCE5 : Hid (alMap BE.L (C ++ [((x1, x2), ⟨be.L, b2, mb2⟩)]) = alMap BE.L (os ++ [((x1, x2), be)])) := Lib.hid (by
        have := HCE.out
        unfold alMap at this ⊢
        rw [List.map_append, List.map_append, this]; rfl)
      clear hown5 hg5 hm5
      go_roundg cnt2
      case measure => exact hlt
      case rel => exact ⟨_, os ++ [((x1, x2), be)], C ++ [((x1, x2), ⟨be.L, b2, mb2⟩)], HRG5.out, HCM2, HC5, HCE5, HN5, HB5, hz5⟩
end Go.Proofs.YtpanoplcamdnkaaGreatDoor

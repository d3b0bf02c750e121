/- Nodes in memory: walk of Sweep. No conditions but bounds. -/
import Derived.Test.YtpanoplcamdnkaaGreatDoorNod1
namespace Go.Proofs.YtpanoplcamdnkaaGreatDoor
open Go.RowKit Go.Lib Go.Maps Go.WideMaps

theorem stay_gb {w w' : World} {mb : Nat} (hm : ∃ es clock, w.heap[mb]? = some (.map es clock)) (hg : w.grownBy w' (some mb)) : Stay w w' := by
  intro p v hv
  obtain ⟨es, clock, hb⟩ := hm
  have hl : p.block < w.heap.size := World.block_lt_of_cell? w p hv
  rw [← hv]
  refine World.cell?_of_block (hg.block p.block hl ?_)
  intro e
  injection e with e
  unfold World.cell? at hv
  rw [e, hb] at hv
  simp at hv
theorem OBin.isMap {b mb : Nat} {L : HldL} {w : World} (h : OBin b mb L w) : ∃ es clock, w.heap[mb]? = some (.map es clock) := by
  obtain ⟨es, clock, e1, _⟩ := h.map
  exact ⟨es, clock, e1⟩
/-- the bins of these reps are swept -/
def swB (ks : List Idn) (B : BL) : BL := B.map fun q => (q.1, if q.1 ∈ ks then ⟨sweepB q.2.L, q.2.b, q.2.mb⟩ else q.2)
theorem swB_nil (B : BL) : swB [] B = B := by unfold swB; simp
theorem swB_mb (ks : List Idn) (B : BL) : (swB ks B).map (fun q => q.2.mb) = B.map (fun q => q.2.mb) := by
  unfold swB
  rw [List.map_map]
  refine List.map_congr_left fun q _ => ?_
  show (if q.1 ∈ ks then (⟨sweepB q.2.L, q.2.b, q.2.mb⟩ : BE) else q.2).mb = q.2.mb
  split <;> rfl
theorem swB_D (ks : List Idn) (B : BL) : alD idLit beV (swB ks B) = alD idLit beV B := by
  unfold alD swB
  rw [List.map_map]
  congr 1
  refine List.map_congr_left fun q _ => ?_
  show (idLit q.1, DataW.held (beV (if q.1 ∈ ks then (⟨sweepB q.2.L, q.2.b, q.2.mb⟩ : BE) else q.2))) = (idLit q.1, DataW.held (beV q.2))
  split <;> rfl
theorem swB_len (ks : List Idn) (B : BL) : (swB ks B).length = B.length := by unfold swB; rw [List.length_map]
theorem swB_all {ks : List Idn} {B : BL} (h : ∀ q ∈ B, q.1 ∈ ks) (F : FL) : plainNode F (swB ks B) = sweepN (plainNode F B) := by
  unfold plainNode sweepN alMap swB
  simp only [List.map_map]
  congr 1
  refine List.map_congr_left fun q hq => ?_
  show (q.1, (if q.1 ∈ ks then (⟨sweepB q.2.L, q.2.b, q.2.mb⟩ : BE) else q.2).L) = (q.1, sweepB q.2.L)
  rw [if_pos (h q hq)]
theorem nodup_map_inj {α β : Type} (f : α → β) : ∀ {l : List α}, (l.map f).Nodup → ∀ {a b : α}, a ∈ l → b ∈ l → f a = f b → a = b
  | [], _, _, _, ha, _, _ => absurd ha List.not_mem_nil
  | y :: r, h, a, b, ha, hb, e => by
    rw [List.map_cons, List.nodup_cons] at h
    rcases List.mem_cons.1 ha with e1 | ha'
    · rcases List.mem_cons.1 hb with e2 | hb'
      · rw [e1, e2]
      · rw [e1] at e
        exact absurd (e ▸ List.mem_map_of_mem hb') h.1
    · rcases List.mem_cons.1 hb with e2 | hb'
      · rw [e2] at e
        exact absurd (e ▸ List.mem_map_of_mem ha') h.1
      · exact nodup_map_inj f h.2 ha' hb' e
theorem ONode.sweep1 {n fm bm : Nat} {F : FL} {B : BL} {ks : List Idn} {x : Idn} {be : BE} {w w' : World} (h : ONode n fm bm F (swB ks B) w) (hsr : AlSrt lesser B) (hm : (x, be) ∈ B) (hx : x ∉ ks) (ho0 : OBin be.b be.mb be.L w) (ho : OBin be.b be.mb (sweepB be.L) w') (hg : w.grownBy w' (some be.mb)) :
    ONode n fm bm F (swB (ks ++ [x]) B) w' := by
  have hst := stay_gb ho0.isMap hg
  have hnd := h.nd
  rw [swB_mb] at hnd
  have hnd0 := hnd
  rw [List.nodup_cons, List.nodup_cons] at hnd
  have hmm : be.mb ∈ B.map (fun q => q.2.mb) := List.mem_map_of_mem (f := fun q : Idn × BE => q.2.mb) hm
  have ne : ∀ {k : Nat}, k ≠ be.mb → some k ≠ some be.mb := fun hk e => hk (by injection e)
  have cne : ∀ {k : Nat} {cs t z}, w.heap[k]? = some (.cells cs t z) → k ≠ be.mb := fun {k cs t z} hk e => by
    obtain ⟨es, clock, e1⟩ := ho0.isMap
    rw [e, e1] at hk; cases hk
  refine ⟨(hg.block n h.nlt (ne (cne h.row))).trans h.row, h.files.keep (hg.block fm h.files.blt (ne fun e => hnd.1 (List.mem_cons_of_mem _ (e ▸ hmm)))), ?_, fun q hq => ((h.rd q hq).stay hst).more hg.size, fun q hq => ?_, by rw [swB_mb]; exact hnd0⟩
  · have h1 := h.bins.keep (hg.block bm h.bins.blt (ne fun e => hnd.2.1 (e ▸ hmm)))
    unfold AlMap at h1 ⊢
    rw [swB_D, swB_len] at h1 ⊢
    exact h1
  · obtain ⟨q0, hq0, rfl⟩ := List.mem_map.1 hq
    by_cases e : q0.1 = x
    · have e2 : q0 = (x, be) := al_inj idEmb hsr hq0 hm e
      subst e2
      simp only [List.mem_append, List.mem_singleton, or_true, if_true]
      exact ho
    · have hold : ((q0.1, if q0.1 ∈ ks then (⟨sweepB q0.2.L, q0.2.b, q0.2.mb⟩ : BE) else q0.2) : Idn × BE) ∈ swB ks B := List.mem_map_of_mem (f := fun q : Idn × BE => (q.1, if q.1 ∈ ks then (⟨sweepB q.2.L, q.2.b, q.2.mb⟩ : BE) else q.2)) hq0
      have hk := h.bin _ hold
      have hmne : q0.2.mb ≠ be.mb := fun e3 => e (by
        have : q0 = (x, be) := nodup_map_inj (fun q : Idn × BE => q.2.mb) hnd.2.2 hq0 hm e3
        rw [this])
      have hmem : (q0.1 ∈ ks ++ [x]) ↔ q0.1 ∈ ks := by rw [List.mem_append, List.mem_singleton]; exact ⟨fun h => h.elim id (fun h => absurd h e), .inl⟩
      simp only [hmem]
      have hmb : (if q0.1 ∈ ks then (⟨sweepB q0.2.L, q0.2.b, q0.2.mb⟩ : BE) else q0.2).mb = q0.2.mb := by split <;> rfl
      simp only at hk
      exact hk.keep (hg.block _ hk.lt (ne (cne hk.row))) (hg.block _ hk.map.lt (ne (by rw [hmb]; exact hmne)))
def freeA (os : BL) : Int := (os.map fun q => sizeB q.2.L - sizeB (sweepB q.2.L)).sum
theorem freeA_snoc (os : BL) (o : Idn × BE) : freeA (os ++ [o]) = freeA os + (sizeB o.2.L - sizeB (sweepB o.2.L)) := by unfold freeA; rw [List.map_append, List.sum_append]; simp
theorem sum_perm {l m : List Int} (h : l.Perm m) : l.sum = m.sum := by
  induction h with
  | nil => rfl
  | cons x _ ih => rw [List.sum_cons, List.sum_cons, ih]
  | swap x y l => rw [List.sum_cons, List.sum_cons, List.sum_cons, List.sum_cons]; omega
  | trans _ _ h1 h2 => exact h1.trans h2
theorem freeA_all {os B : BL} (h : os.Perm B) (F : FL) : freeA os = sizeN (plainNode F B) - sizeN (sweepN (plainNode F B)) := by
  have e : freeA os = freeA B := sum_perm (h.map _)
  rw [e]
  unfold freeA sizeN sweepN plainNode alMap
  simp only [List.map_map]
  clear e h os
  induction B with
  | nil => rfl
  | cons q r ih =>
    simp only [List.map_cons, List.sum_cons, Function.comp_apply] at ih ⊢
    omega
theorem free_bound {L : HldL} {n : Int} (h : BinOk n L) (hl : L.length ≤ 250) : 0 ≤ sizeB L - sizeB (sweepB L) ∧ sizeB L - sizeB (sweepB L) ≤ 16000 := by
  have h1 := h.size
  have h2 := (binOk_filter h usedB).size
  have h3 := (binOk_filter h fun x => !usedB x).size
  have h4 := sizeB_sweep L
  have h5 : sizeB (sweepB L) = sizeB (L.filter usedB) := rfl
  omega
theorem freeA_bound {os : BL} (h : ∀ q ∈ os, 0 ≤ sizeB q.2.L - sizeB (sweepB q.2.L) ∧ sizeB q.2.L - sizeB (sweepB q.2.L) ≤ 16000) : 0 ≤ freeA os ∧ freeA os ≤ 16000 * os.length := by
  unfold freeA
  induction os with
  | nil => simp
  | cons q r ih =>
    have h1 := ih (fun z hz => h z (List.mem_cons_of_mem _ hz))
    have h2 := h q List.mem_cons_self
    rw [List.map_cons, List.sum_cons, List.length_cons]; omega
theorem foot_sweep {n fm bm : Nat} {F : FL} {B : BL} (ks : List Idn) (b : Nat) : (nodeFoot n fm bm F B).new (nodeFoot n fm bm F (swB ks B)) b := fun k => by
  refine ⟨?_, ?_⟩
  · rintro (rfl | rfl | ⟨q, hq, rfl⟩)
    · exact .inl (.inl rfl)
    · exact .inl (.inr (.inl rfl))
    · obtain ⟨q0, hq0, rfl⟩ := List.mem_map.1 hq
      refine .inl (.inr (.inr ⟨q0, hq0, ?_⟩))
      show q0.2.mb = (if q0.1 ∈ ks then (⟨sweepB q0.2.L, q0.2.b, q0.2.mb⟩ : BE) else q0.2).mb
      split <;> rfl
  · rintro (rfl | ⟨q, hq, rfl⟩ | h)
    · exact .inl (.inl rfl)
    · obtain ⟨q0, hq0, rfl⟩ := List.mem_map.1 hq
      refine .inl (.inr (.inl ⟨q0, hq0, ?_⟩))
      show q0.2.b = (if q0.1 ∈ ks then (⟨sweepB q0.2.L, q0.2.b, q0.2.mb⟩ : BE) else q0.2).b
      split <;> rfl
    · exact .inl (.inr (.inr h))
def SweepNPost (n fm bm : Nat) (F : FL) (B : BL) (w : World) (e : Ending) (w' : World) : Prop :=
  ∃ f', e = .returned (.int .i64 (sizeN (plainNode F B) - sizeN (sweepN (plainNode F B)))) ∧ Node n (sweepN (plainNode F B)) f' w' ∧ FrS (nodeFoot n fm bm F B).S w w' ∧ (nodeFoot n fm bm F B).new f' w.heap.size
set_option maxRecDepth 100000 in
set_option maxHeartbeats 2000000 in
theorem NdSweep_any (n fm bm : Nat) (F : FL) (B : BL) (hP : NodeOk (plainNode F B)) (w : World) (h : ONode n fm bm F B w) :
    Calls Tryz.prog 15 #[.pointer (some ⟨n, 0, none⟩)] w (SweepNPost n fm bm F B w) := by
  have HN := Lib.hid h
  have HP := Lib.hid hP
  have HKB := Lib.hid (h.keysB hP)
  have HSB := Lib.hid (ONode.srtB hP)
  have c1 := h.c1
  have hnl := h.nlt
  have hml := h.bins.blt
  have hbl := hP.blenF
  clear h hP
  go_enter Tryz.func15, Tryz.ntmps15
  go_wp2_with (first | (at_range; refine wpList_range_own _ rfl _ 103 rfl 47 42 lawI Tryz.underlying103 rawE bm B.length (alD idLit beV B) rfl HN.out.bins ?_; intro w0 hrg0 hg0 hs0) | fail)
  go_frame
  have hb0 : Below w.heap.size w w0 := (Below.refl _ _).grown hg0 (Nat.le_refl _) (fun j hj => by cases hj)
  have HRG0 := Lib.hid hrg0
  have HN0 : Hid (ONode n fm bm F (swB [] B) w0) := Lib.hid (by rw [swB_nil]; exact HN.out.below hb0)
  have HFR0 : Hid (FrS (nodeFoot n fm bm F B).S w w0) := Lib.hid (FrS.of_below hb0)
  clear hrg0 hg0 hs0 hb0
  go_loopg [3] (Maps.size (alD idLit beV B)) (fun gh v3 wr => ∃ (left : Lit → Bool) (os : BL) (z : Int), wr.ranges Tryz.prog 47 rawE bm w.heap.size B.length (alD idLit beV B) left gh ∧ v3 = .int .i64 z ∧ Hid (z = freeA os) ∧ 0 ≤ z ∧ z ≤ 16000 * 30 ∧ Hid (AlCame idLit B left os) ∧ Hid (ONode n fm bm F (swB (os.map (·.1)) B) wr) ∧ Hid (FrS (nodeFoot n fm bm F B).S w wr))
  case atStart => exact ⟨_, [], 0, HRG0.out, rfl, Lib.hid rfl, by omega, by omega, Lib.hid (AlCame.start idEmb beV HKB.out), HN0, HFR0⟩
  case round =>
    obtain ⟨left, os, z, hrg, rfl, hz, hz0, hz1, HCM, HNR, HFR⟩ := hrel
    go_wp2_with (first | (at_next; refine wpList_next_ranges _ rfl _ rfl 47 lawI rawE idV id idRd.mk_inv rawE_inv bm w.heap.size B.length (alD idLit beV B) left _ rfl hrg ?_ ?_) | fail)
    · intro _ hl0
      have hpm := HCM.out.perm idEmb HSB.out hl0
      have HZ : Hid (z = sizeN (plainNode F B) - sizeN (sweepN (plainNode F B))) := Lib.hid (hz.out.trans (freeA_all hpm F))
      have HFIN : Hid (SweepNPost n fm bm F B w (.returned (.int .i64 z)) wr) := Lib.hid (by
        refine ⟨nodeFoot n fm bm F (swB (os.map (·.1)) B), by rw [HZ.out], ?_, HFR.out, foot_sweep _ _⟩
        have := HNR.out.node
        rw [swB_all (fun q hq => List.mem_map_of_mem (f := fun q : Idn × BE => q.1) (hpm.mem_iff.2 hq))] at this
        exact this)
      clear hl0 hpm
      go_wp2
      go_ret
      exact HFIN.out
    · intro x1 x2 c kl yd yp w2 cnt2 hkey hlk hv hat hrg2 hlt hg2 hs2 hen
      obtain ⟨rfl, hx, be, hm, rfl⟩ := al_came idRd (x := (x1, x2)) HKB.out hkey hv hat
      have hq := HP.out.binOf hm
      simp only at hq
      have hnew : (x1, x2) ∉ os.map (·.1) := fun hmm => by
        obtain ⟨o, ho, e⟩ := List.mem_map.1 hmm
        have := ((HCM.out.2 o).1 ho).2
        rw [e, hlk] at this; cases this
      have HCM2 := Lib.hid (HCM.out.step (o := ((x1, x2), be)) idEmb HSB.out HKB.out hm hlk)
      have hfb := free_bound hq.1 hq.2.1
      have hbd := freeA_bound (os := os ++ [((x1, x2), be)]) (fun q hq' => by
        have hqB := HCM2.out.sub q hq'
        have h1 := HP.out.binOf hqB
        exact free_bound h1.1 h1.2.1)
      rw [freeA_snoc, ← hz.out] at hbd
      have hln : (os ++ [((x1, x2), be)]).length ≤ 30 := by
        have h1 : ((os ++ [((x1, x2), be)]).map (·.1)).length ≤ (B.map (·.1)).length := nodup_len HCM2.out.1 (fun a ha => by
          obtain ⟨o, ho, rfl⟩ := List.mem_map.1 ha
          exact List.mem_map_of_mem (HCM2.out.sub o ho))
        rw [List.length_map, List.length_map] at h1
        omega
      have HZ2 : Hid (z + (sizeB be.L - sizeB (sweepB be.L)) = freeA (os ++ [((x1, x2), be)])) := Lib.hid (by rw [freeA_snoc, hz.out])
      simp only at hbd
      have hb2 : Below w.heap.size wr w2 := (Below.refl _ _).grown hg2 (by have := HFR.out.size; exact this) (fun j hj => by cases hj; exact Nat.le_refl _)
      have HNR2 : Hid (ONode n fm bm F (swB (os.map (·.1)) B) w2) := Lib.hid (HNR.out.keepH hb2.size (fun k hk hf => hg2.block k hk (fun e => by
        injection e with e
        have := HN.out.foot k (hf.imp (fun h => by
          rcases h with h | h | ⟨q, hq, e2⟩
          · exact .inl h
          · exact .inr (.inl h)
          · have hh : k ∈ (swB (os.map (·.1)) B).map (fun q => q.2.mb) := List.mem_map.2 ⟨q, hq, e2⟩
            rw [swB_mb] at hh
            obtain ⟨q', hq', e3⟩ := List.mem_map.1 hh
            exact .inr (.inr ⟨q', hq', e3⟩)) (fun h => by
          rcases h with h | ⟨q, hq, e2⟩ | h
          · exact .inl h
          · obtain ⟨q0, hq0, rfl⟩ := List.mem_map.1 hq
            refine .inr (.inl ⟨q0, hq0, ?_⟩)
            rw [← e2]
            show q0.2.b = (if q0.1 ∈ _ then (⟨sweepB q0.2.L, q0.2.b, q0.2.mb⟩ : BE) else q0.2).b
            split <;> rfl
          · exact .inr (.inr h)))
        omega)))
      have hob : OBin be.b be.mb be.L w2 := by
        have hmem : (((x1, x2), if (x1, x2) ∈ os.map (·.1) then (⟨sweepB be.L, be.b, be.mb⟩ : BE) else be) : Idn × BE) ∈ swB (os.map (·.1)) B := List.mem_map_of_mem (f := fun q : Idn × BE => (q.1, if q.1 ∈ os.map (·.1) then (⟨sweepB q.2.L, q.2.b, q.2.mb⟩ : BE) else q.2)) hm
        rw [if_neg hnew] at hmem
        exact HNR2.out.bin _ hmem
      have hsz2 := hb2.size
      have HFR2 := Lib.hid (HFR.out.trans (T := fun k => k = w.heap.size) ⟨hg2.os, hg2.tape, hg2.output, hg2.size, fun k hk hn => hg2.block k hk (fun e => hn (by injection e))⟩ (fun i hi => .inr (by omega)))
      have HRG2 := Lib.hid hrg2
      have hmbw : be.mb < w.heap.size := (HN.out.bin _ hm).map.lt
      have hmbm : bm ≠ be.mb := fun e => by
        have := HN.out.nd
        rw [List.nodup_cons, List.nodup_cons] at this
        exact this.2.1 (e ▸ List.mem_map_of_mem (f := fun q : Idn × BE => q.2.mb) hm)
      have hsw := BnSweep_any be.b be.mb be.L 7500 hq.1 (by omega) w2 hob
      rw [← sizeB_sweep] at hsw
      have HSW := Lib.hid hsw
      have HSTP := Lib.hid (fun w' (ho : OBin be.b be.mb (sweepB be.L) w') (hg : w2.grownBy w' (some be.mb)) => HNR2.out.sweep1 HSB.out hm hnew hob ho hg)
      have HSS : Hid (be.mb ∈ B.map (fun q => q.2.mb)) := Lib.hid (List.mem_map_of_mem (f := fun q : Idn × BE => q.2.mb) hm)
      clear hkey hlk hv hat hrg2 hg2 hs2 hz hb2 hx hm hrg hnew hob hsw HNR HFR HCM
      unfold beV at *
      go_wp2_with fail
      refine HSW.out.mono ?_
      rintro e w3 ⟨rfl, ho3, hg3⟩
      have HN3 := Lib.hid (HSTP.out w3 ho3 hg3)
      have HRG3 := Lib.hid (World.ranges.kept HRG2.out hg3 (by intro e; injection e with e; exact hmbm e) (by intro e; injection e with e; omega))
      have HFR3 := Lib.hid (HFR2.out.trans (FrS.of_gb (S := (nodeFoot n fm bm F B).S) hg3 (.inr (.inr (by obtain ⟨q, hq, e⟩ := List.mem_map.1 HSS.out; exact ⟨q, hq, e⟩)))) (fun _ h => .inl h))
      clear ho3 hg3
      go_wp2
      go_roundg cnt2
      case measure => exact hlt
      case rel => exact ⟨_, os ++ [((x1, x2), be)], z + (sizeB be.L - sizeB (sweepB be.L)), HRG3.out, rfl, HZ2, hbd.1, by omega, HCM2, Lib.hid (by rw [List.map_append]; exact HN3.out), HFR3⟩
end Go.Proofs.YtpanoplcamdnkaaGreatDoor

/- ScE, ScF, ScG in one text. Conditions: as each part says. -/
import Derived.Test.YtpanoplcamdnkaaGreatDoorScr1
import Derived.Test.YtpanoplcamdnkaaGreatDoorNod1
import Derived.Test.YtpanoplcamdnkaaGreatDoorMrk1
/- Walk of scrub.uses: how often files of a rep use each piece. No conditions but bounds. -/
namespace Go.Proofs.YtpanoplcamdnkaaGreatDoor
open Go.RowKit Go.Lib Go.Maps Go.WideMaps Go.ChangeMaps

section
open Go.WideElems Go.ChangeShapes Go.WideShapes Go.MapKept
variable {H : Type} {P : Program} {w : World} {t k e : TypeId} {R : Value → Option (DataW H × List MemPlace)} {b : Nat} {es : Array MapEntry} {clock : Nat}
/-- an entry made ahead of its store: the map is as with the element stored that it has -/
theorem entry_mid (K : KeyLaw P k) (ht : P.underlying t = some (.map k e)) {z : Value} (hz : ∀ u : World, (zeroValue e).run P u = .ok z u) (hb : w.heap[b]? = some (.map es clock)) (F : Fit P k R es clock)
    {key : Value} {kl : Lit} (hkey : keyOf P k key = some kl) :
    ∃ (v0 : Value) (st : Nat) (es1 : Array MapEntry) (clock1 : Nat), (Instr.mapEntry t (.map (some b)) key).run P w = .ok (.tuple #[v0, goInt st]) (setBlock w b (.map es1 clock1)) ∧
      (Instr.mapUpdate t (.map (some b)) key v0).run P w = .ok () (setBlock w b (.map es1 clock1)) ∧ (Instr.lookup t (.map (some b)) key false).run P w = .ok v0 w := by
  rcases K.find w hkey es.toList F.keys with ⟨h1, h2⟩ | ⟨j, e0, h1, h2, h3⟩
  · refine ⟨z, clock, es.push ⟨key, z, clock⟩, clock + 1, ?_, ?_, ?_⟩
    · simp [Instr.mapEntry, run_underlying ht, MapKept.run_getObj_map hb, K.check w false hkey, h1, hz, MapKept.run_setObj_map _ hb, Result.andThen, setBlock]
    · simp [Instr.mapUpdate, run_underlying ht, MapKept.run_getObj_map hb, K.check w false hkey, h1, MapKept.run_setObj_map _ hb, Result.andThen, setBlock]
    · simp [Instr.lookup, run_underlying ht, MapKept.run_getObj_map hb, K.check w _ hkey, h1, hz, Result.andThen]
  · have hj : es[j]? = some e0 := by simpa using h2
    have hsame : es.modify j (fun e => { e with key := key }) = es := by
      apply Array.ext'
      rw [Array.toList_modify, modify_eq_set _ _ _ _ h2]
      have : ({ e0 with key := key } : MapEntry) = e0 := by rw [← h3]
      rw [this]
      exact set_self _ _ _ h2
    have hsame2 : es.modify j (fun e => { e with key := key, val := e0.val }) = es := by
      apply Array.ext'
      rw [Array.toList_modify, modify_eq_set _ _ _ _ h2]
      have : ({ e0 with key := key, val := e0.val } : MapEntry) = e0 := by rw [← h3]
      rw [this]
      exact set_self _ _ _ h2
    refine ⟨e0.val, e0.born, es, clock, ?_, ?_, ?_⟩
    · simp [Instr.mapEntry, run_underlying ht, MapKept.run_getObj_map hb, K.check w false hkey, h1, hj, h3, K.stays w hkey, hsame, MapKept.run_setObj_map _ hb, Result.andThen, setBlock]
    · simp [Instr.mapUpdate, run_underlying ht, MapKept.run_getObj_map hb, K.check w false hkey, h1, hj, h3, K.stays w hkey, hsame2, MapKept.run_setObj_map _ hb, Result.andThen, setBlock]
    · simp [Instr.lookup, run_underlying ht, MapKept.run_getObj_map hb, K.check w _ hkey, h1, Result.andThen]
end
section
variable {K V : Type} {P : Program} {k : TypeId} {lit : K → Lit} {lt : K → K → Bool} {ok okw : K → Prop} {kv : K → Value} [DecidableEq K]
/-- m[x] = v .. m[x] ..: the entry, look-ups behind it, the store -/
theorem AlMap.entryL (R : KeyRd P k lit lt ok okw kv) (KL : KeyLaw P k) {f : V → Value} {mb : Nat} {L : List (K × V)} {w : World} (h : AlMap P k lit f mb L w) (hs : AlSrt lt L) (hL : ∀ p ∈ L, ok p.1) {t e : TypeId} (ht : P.underlying t = some (.map k e)) {z : Value} (hz : ∀ u : World, (zeroValue e).run P u = .ok z u) {d0 : V} (hd0 : f d0 = z) (hn : L.length < maxLen) (x : K) (v : V) (hx : ok x) :
    ∃ st w1 w2, (Instr.mapEntry t (.map (some mb)) (kv x)).run P w = .ok (.tuple #[f ((alGet L x).getD d0), goInt st]) w1 ∧ Stay w w1 ∧ (Instr.lookup t (.map (some mb)) (kv x) false).run P w = .ok (f ((alGet L x).getD d0)) w ∧ (Instr.lookup t (.map (some mb)) (kv x) false).run P w1 = .ok (f ((alGet L x).getD d0)) w1 ∧
      (Instr.entryStore t (.map (some mb)) (goInt st) (f v)).run P w1 = .ok () w2 ∧ AlMap P k lit f mb (alPut lt x v L) w2 ∧ Stay w w2 ∧ w.grownBy w2 (some mb) ∧ w2.heap.size = w.heap.size := by
  have hfd : ∀ o : Option V, (o.map f).getD z = f (o.getD d0) := fun o => by cases o <;> simp [hd0]
  have hlk := h.at R hL ht (hz w) (R.emb.wide hx)
  rw [hfd] at hlk
  obtain ⟨v0, st, w1, w2, h1, h2, h3, h4, h5, h6, h7⟩ := AlMap.entry R KL h hs hL ht hz hn x v hx
  have h0 := h
  obtain ⟨es, clock, hb, F, hsz, hD⟩ := h
  obtain ⟨u0, st', es1, clock1, k1, k2, k3⟩ := entry_mid KL ht hz hb F (R.key (R.emb.wide hx))
  rw [hlk] at k3
  injection k3 with k3 _
  subst k3
  rw [h1] at k1
  injection k1 with k1 k1w
  injection k1 with k1
  have k1a : v0 = f ((alGet L x).getD d0) := by
    injection k1 with k1
    injection k1 with k1
  subst k1a
  obtain ⟨w', h8, h9, h10⟩ := World.ownsMap.store h0 R.law ht hn (R.key (R.emb.wide hx)) (show rawE (f ((alGet L x).getD d0)) = some (.held (f ((alGet L x).getD d0)), []) from rfl)
  rw [k2] at h8
  injection h8 with _ h8
  rw [← h8, ← k1w] at h9
  have hA := AlMap.put R hs hL x ((alGet L x).getD d0) hx h9
  have hA2 := hA.at R (fun p hp => by
    rcases alPut_mem hp with rfl | hp
    · exact hx
    · exact hL p hp) ht (hz w1) (R.emb.wide hx)
  rw [hfd, alGet_put, if_pos rfl] at hA2
  exact ⟨st, w1, w2, h1, h2, hlk, hA2, h3, h4, h5, h6, h7⟩
end
/-! ### the uses -/
abbrev UL := List (Idn × Int)
def intV (v : Int) : Value := .int .i64 v
theorem zeroInt (w : World) : (zeroValue 3).run Tryz.prog w = .ok (.int .i64 0) w := by kernel_rfl
/-- the map counts as g does -/
structure UseM (U : UL) (g : Idn → Int) : Prop where
  srt : AlSrt lesser U
  keys : ∀ p ∈ U, IdOk0 p.1
  val : ∀ y, (alGet U y).getD 0 = g y
theorem UseM.nil : UseM [] (fun _ => 0) := ⟨alSrt_nil, fun p hp => absurd hp List.not_mem_nil, fun _ => rfl⟩
theorem UseM.put {U : UL} {g g' : Idn → Int} (h : UseM U g) {x : Idn} (hx : IdOk0 x) (hg : ∀ y, g' y = g y + if x = y then 1 else 0) : UseM (alPut lesser x ((alGet U x).getD 0 + 1) U) g' := by
  refine ⟨alSrt_put idEmb h.srt _ _, fun p hp => ?_, fun y => ?_⟩
  · rcases alPut_mem hp with rfl | hp
    · exact hx
    · exact h.keys p hp
  · rw [alGet_put, hg]
    by_cases e : x = y
    · subst e; simp [h.val]
    · simp [e, h.val]
theorem UseM.to {U : UL} {g g' : Idn → Int} (h : UseM U g) (hg : ∀ y, g' y = g y) : UseM U g' := ⟨h.srt, h.keys, fun y => (h.val y).trans (hg y).symm⟩
structure UsIn (mb : Nat) (U : UL) (g : Idn → Int) (w0 w : World) : Prop where
  map : AlMap Tryz.prog 47 idLit intV mb U w
  um : UseM U g
  bel : Below w0.heap.size w0 w
  ge : w0.heap.size ≤ mb
theorem UsIn.below {mb : Nat} {U : UL} {g : Idn → Int} {w0 w w' : World} (h : UsIn mb U g w0 w) (hb : Below w.heap.size w w') : UsIn mb U g w0 w' := ⟨h.map.below hb, h.um, h.bel.trans (hb.mono h.bel.size), h.ge⟩
def UsesPost (fs : List Rcp) (rep : Idn) (w : World) (e : Ending) (w' : World) : Prop :=
  ∃ mb U, e = .returned (.tuple #[.map (some mb), .int .i64 (nS fs rep : Int)]) ∧ AlMap Tryz.prog 47 idLit intV mb U w' ∧ UseM U (useS fs rep) ∧ Below w.heap.size w w'
set_option maxRecDepth 100000 in
set_option maxHeartbeats 8000000 in
theorem ScUses_any (vf : Value) (fs : List Rcp) (hfl : fs.length ≤ 30) (hok : ∀ r ∈ fs, r.ids.length ≤ 250 ∧ ∀ x ∈ r.ids, IdOk0 x) (rep : Idn) (w : World) (hf : RsRd w w.heap.size vf fs) :
    Calls Tryz.prog 135 #[vf, idV rep] w (UsesPost fs rep w) := by
  obtain ⟨A, c, rfl, hcap, hcells⟩ := hf
  have hb1 : Below w.heap.size w (w.alloc (.cells #[.int .u32 (rep.1 : Int), .int .i64 rep.2] 47)) := (Below.refl _ _).alloc (Nat.le_refl _) _
  have HX := Lib.hid hcells
  have HB1 := Lib.hid hb1
  have HOK := Lib.hid hok
  have HRP := Lib.hid (Box2.mk' w (.int .u32 (rep.1 : Int)) (.int .i64 rep.2) 47)
  have hz1 : (w.alloc (.cells #[.int .u32 (rep.1 : Int), .int .i64 rep.2] 47)).heap.size = w.heap.size + 1 := by simp
  have HM0 : Hid (UsIn (w.heap.size + 1) [] (useS (fs.take 0) rep) (w.alloc (.cells #[.int .u32 (rep.1 : Int), .int .i64 rep.2] 47)) ((w.alloc (.cells #[.int .u32 (rep.1 : Int), .int .i64 rep.2] 47)).alloc (.map #[] 0))) := Lib.hid (by
    refine ⟨?_, UseM.nil.to (fun y => rfl), (Below.refl _ _).alloc (Nat.le_refl _) _, by rw [hz1]; exact Nat.le_refl _⟩
    have := AlMap.made (P := Tryz.prog) (k := 47) (lit := idLit) (w.alloc (.cells #[.int .u32 (rep.1 : Int), .int .i64 rep.2] 47)) intV
    rw [hz1] at this
    exact this)
  have hmm := @run_makeMap Tryz.prog
  have HFL := Lib.hid hfl
  clear hcells hb1 hok
  go_enter Tryz.func135, Tryz.ntmps135
  go_wp2
  generalize hmb : w.heap.size + 1 = mb at *
  generalize (w.alloc (.cells #[.int .u32 (rep.1 : Int), .int .i64 rep.2] 47)) = w1 at *
  generalize w1.alloc (.map #[] 0) = w2 at *
  clear hmm hmb hz1
  go_loopg [7, 15] fs.length (fun gh v7 v15 wr => ∃ (k : Nat) (U : UL), v15 = .int .i64 k ∧ v7 = .int .i64 (nS (fs.take k) rep : Int) ∧ k ≤ fs.length ∧ gh = fs.length - k ∧ U.length ≤ 250 * k ∧ Hid (UsIn mb U (useS (fs.take k) rep) w1 wr))
  case atStart => exact ⟨0, [], rfl, rfl, Nat.zero_le _, rfl, Nat.le_refl _, HM0⟩
  case round =>
    obtain ⟨k, U, rfl, rfl, hk, hgm, hul, H⟩ := hrel
    by_cases hkl : k < fs.length
    · obtain ⟨g, o, rfl, hg, hx⟩ := HX.out (by omega)
      obtain ⟨sl, hsl, x0, x1, x2, x3⟩ := hx k hkl
      obtain ⟨SA, sc, hsv, _, hic⟩ := hsl.form
      subst hsv
      have HIC := Lib.hid hic
      have hg1 : g < w1.heap.size := Nat.lt_of_lt_of_le hg HB1.out.size
      have y0 := (H.out.bel.cell (p := ⟨g, o + k * 4, none⟩) hg1).trans ((HB1.out.cell (p := ⟨g, o + k * 4, none⟩) hg).trans x0)
      have y1 := (H.out.bel.cell (p := ⟨g, o + k * 4 + 1, none⟩) hg1).trans ((HB1.out.cell (p := ⟨g, o + k * 4 + 1, none⟩) hg).trans x1)
      have y2 := (H.out.bel.cell (p := ⟨g, o + k * 4 + 2, none⟩) hg1).trans ((HB1.out.cell (p := ⟨g, o + k * 4 + 2, none⟩) hg).trans x2)
      have y3 := (H.out.bel.cell (p := ⟨g, o + k * 4 + 3, none⟩) hg1).trans ((HB1.out.cell (p := ⟨g, o + k * 4 + 3, none⟩) hg).trans x3)
      have HSLr := Lib.hid ((hsl.keep (HB1.out.trans (H.out.bel.mono HB1.out.size)) (Nat.le_refl _)).more (Nat.le_trans HB1.out.size H.out.bel.size))
      obtain ⟨hrc0, hrk⟩ := HOK.out fs[k] (List.getElem_mem hkl)
      have HUS := Lib.hid (fun y => useS_succ hkl rep y)
      have HNY := Lib.hid (fun h => nS_yes hkl (x := rep) h)
      have HNN := Lib.hid (fun h => nS_no hkl (x := rep) h)
      have hnb : nS (fs.take k) rep ≤ k := Nat.le_trans (nS_le _ _) (by rw [List.length_take]; omega)
      have hub : ∀ y, 0 ≤ useS (fs.take k) rep y ∧ useS (fs.take k) rep y ≤ 250 * k := fun y => by
        have := useS_bnd (fs := fs.take k) (by rw [List.length_take]; omega) (fun r hr => (HOK.out r (List.mem_of_mem_take hr)).1) rep y
        rw [List.length_take] at this
        omega
      have HUB := Lib.hid hub
      generalize hfk : fs[k] = r at *
      have hrc : r.ids.length ≤ 1000000 := by omega
      have HRK := Lib.hid hrk
      have b1 : (0 : Int) ≤ (k : Int) := by omega
      have b2 : (k : Int) < (fs.length : Int) := by omega
      have hb3 : Below wr.heap.size wr (wr.alloc (.cells #[VT r.name, .int .i64 r.len, .int .u32 (r.print : Int), .slice SA r.ids.length sc] 65)) := (Below.refl _ _).alloc (Nat.le_refl _) _
      have H3 := Lib.hid (H.out.below hb3)
      have HSL3 := Lib.hid ((HSLr.out.keep hb3 (Nat.le_refl _)).more hb3.size)
      have BR3 := Lib.hid (Box4.mk' wr (VT r.name) (.int .i64 r.len) (.int .u32 (r.print : Int)) (.slice SA r.ids.length sc) 65)
      have RP3 := Lib.hid (HRP.out.below H3.out.bel HRP.out.lt)
      clear hx x0 x1 x2 x3 hsl hb3 hrk hub hfk hic
      by_cases he : repOf r.ids = rep
      · obtain ⟨t1, t2⟩ := idq_eqs he
        have HN := Lib.hid (HNY.out he)
        have HUY : Hid (∀ y, useS (fs.take (k + 1)) rep y = useS (fs.take k) rep y + (r.ids.count y : Int)) := Lib.hid (fun y => by rw [HUS.out, if_pos he])
        clear he
        go_wp2
        generalize wr.alloc (.cells #[VT r.name, .int .i64 r.len, .int .u32 (r.print : Int), .slice SA r.ids.length sc] 65) = w3 at *
        have hS0 : Below w3.heap.size w3 w3.drew := (Below.refl _ _).drew
        refine region_S (fun w' => Below w3.heap.size w3 w') 3 (by kernel_rfl) (by kernel_rfl) ?_
        refine take_S 0 rfl (by kernel_rfl) (by kernel_rfl) hS0 (fun w' hS => by obtain ⟨A0, A1, A2, A3, _⟩ := BR3.out.below hS BR3.out.lt; go_simp; rfl) ?_
        refine take_S 2 rfl (by kernel_rfl) (by kernel_rfl) hS0 (fun w' hS => by obtain ⟨A0, A1, _, _⟩ := RP3.out.below hS RP3.out.lt; go_simp; rfl) ?_
        refine carry_S 1 rfl (by kernel_rfl) (by decide) (by kernel_rfl) (fun K hK => ?_)
        go_simp
        refine (RcRep_any (.agg #[VT r.name, .int .i64 r.len, .int .u32 (r.print : Int), .slice SA r.ids.length sc]) r hrc _ ⟨_, rfl, (HSL3.out.keep hS0 (Nat.le_refl _)).more hS0.size⟩).mono ?_
        rintro e w4 ⟨rfl, hbw4⟩
        have hS1 : Below w3.heap.size w3 w4 := hS0.trans (hbw4.mono hS0.size)
        refine hK _ _ hS1 (forced_S (by kernel_rfl) ?_)
        clear hK K
        try simp only [Act.put, List.getElem_toArray, List.getElem_cons_succ, List.getElem_cons_zero, List.setIfInBounds_toArray, List.set_cons_zero, List.set_cons_succ]
        try simp only [Act.put, List.getElem_toArray, List.getElem_cons_succ, List.getElem_cons_zero, List.setIfInBounds_toArray, List.set_cons_zero, List.set_cons_succ]
        simp only [List.drop_succ_cons, List.drop_zero]
        have HB4 := Lib.hid hS1
        have H4 := Lib.hid (H3.out.below hS1)
        have BR4 := Lib.hid (BR3.out.below hS1 BR3.out.lt)
        clear hS0 hS1 hbw4
        have r3 := BR4.out.c3
        have H4' : Hid (UsIn mb U (fun y => useS (fs.take k) rep y + ((r.ids.take 0).count y : Int)) w1 w4) := Lib.hid ⟨H4.out.map, H4.out.um.to (fun y => by simp), H4.out.bel, H4.out.ge⟩
        have hnw : ((nS (fs.take k) rep : Int)) + 1 = ((nS (fs.take (k + 1)) rep : Nat) : Int) := by rw [HN.out]; omega
        have HNW := Lib.hid hnw
        clear hnw H4
        go_wp2
        go_loopg [28] r.ids.length (fun gh v28 wj => ∃ (j : Nat) (V : UL), v28 = .int .i64 j ∧ j ≤ r.ids.length ∧ gh = r.ids.length - j ∧ V.length ≤ 250 * k + j ∧ Hid (UsIn mb V (fun y => useS (fs.take k) rep y + ((r.ids.take j).count y : Int)) w1 wj))
        case atStart => exact ⟨0, U, rfl, Nat.zero_le _, rfl, by omega, H4'⟩
        case round =>
          obtain ⟨j, V, rfl, hj, hgj, hvl, Hj⟩ := hrel
          by_cases hjl : j < r.ids.length
          · obtain ⟨ig, io, hia, hig, hicell⟩ := HIC.out (by omega)
            subst hia
            obtain ⟨i0, i1⟩ := hicell j hjl
            have hig1 : ig < w1.heap.size := Nat.lt_of_lt_of_le hig HB1.out.size
            have e0 := (Hj.out.bel.cell (p := ⟨ig, io + j * 2, none⟩) hig1).trans ((HB1.out.cell (p := ⟨ig, io + j * 2, none⟩) hig).trans i0)
            have e1 := (Hj.out.bel.cell (p := ⟨ig, io + j * 2 + 1, none⟩) hig1).trans ((HB1.out.cell (p := ⟨ig, io + j * 2 + 1, none⟩) hig).trans i1)
            have b3 : (0 : Int) ≤ (j : Int) := by omega
            have b4 : (j : Int) < (r.ids.length : Int) := by omega
            have hxo := HRK.out r.ids[j] (List.getElem_mem hjl)
            have HCT := Lib.hid (fun y => count_succ hjl y)
            generalize r.ids[j] = x at *
            have hb6 : Below wr.heap.size wr (wr.alloc (.cells #[.int .u32 (x.1 : Int), .int .i64 x.2] 47)) := (Below.refl _ _).alloc (Nat.le_refl _) _
            have H6 := Lib.hid (Hj.out.below hb6)
            obtain ⟨x0, x1, _, _⟩ := Box2.mk' wr (.int .u32 (x.1 : Int)) (.int .i64 x.2) 47
            clear i0 i1 hicell hb6
            go_wp2
            generalize wr.alloc (.cells #[.int .u32 (x.1 : Int), .int .i64 x.2] 47) = w6 at *
            have hfl := HFL.out
            obtain ⟨st, wa, wb, q1, q2, q3, q4, q5, q6, q7, q8, q9⟩ := AlMap.entryL (w := w6.drew) idRd klId (H6.out.map.below (Below.refl _ _).drew) H6.out.um.srt H6.out.um.keys Tryz.underlying208 zeroInt (d0 := 0) rfl (by unfold maxLen; omega) x ((alGet V x).getD 0 + 1) hxo
            have hum := H6.out.um.put (g' := fun y => useS (fs.take k) rep y + ((r.ids.take (j + 1)).count y : Int)) hxo (fun y => by show useS (fs.take k) rep y + ((r.ids.take (j + 1)).count y : Int) = useS (fs.take k) rep y + ((r.ids.take j).count y : Int) + _; rw [HCT.out, Int.add_assoc])
            have hcv := H6.out.um.val x
            have hcnt : (r.ids.take j).count x ≤ j := Nat.le_trans List.count_le_length (by rw [List.length_take]; omega)
            have hcb := HUB.out x
            have hlen : (alPut lesser x ((alGet V x).getD 0 + 1) V).length ≤ V.length + 1 := alPut_length_le
            generalize alPut lesser x ((alGet V x).getD 0 + 1) V = V' at *
            generalize (alGet V x).getD 0 = c at *
            replace hcv : c = useS (fs.take k) rep x + ((r.ids.take j).count x : Int) := hcv
            have hc0 : 0 ≤ c := by omega
            have hc1 : c ≤ 100000 := by omega
            have HWR : Hid (IntKind.i64.wrap (c + 1) = c + 1) := Lib.hid (IntWalk.i64_in _ (by omega))
            have HJ' : Hid (UsIn mb V' (fun y => useS (fs.take k) rep y + ((r.ids.take (j + 1)).count y : Int)) w1 wb) := Lib.hid ⟨q6, hum, (H6.out.bel.trans ((Below.refl w6.heap.size w6).drew.mono H6.out.bel.size)).grown q8 (Nat.le_trans H6.out.bel.size (Nat.le_refl _)) (fun b e => by injection e with e; subst e; exact H6.out.ge), H6.out.ge⟩
            have hgi : ∀ z : Int, goInt z = .int .i64 z := fun _ => rfl
            rw [hgi] at q1 q5
            unfold intV at q1 q3 q4 q5
            clear hgi hum hcv hcnt hcb q6 q7 q8 q9
            have hS0 : Stay w6 w6.drew ∧ (Instr.lookup 208 (.map (some mb)) (idV x) false).run Tryz.prog w6.drew = .ok (.int .i64 c) w6.drew := ⟨Stay.refl _, q3⟩
            have hS1 : Stay w6 wa ∧ (Instr.lookup 208 (.map (some mb)) (idV x) false).run Tryz.prog wa = .ok (.int .i64 c) wa := ⟨q2, q4⟩
            refine region_S (fun w' => Stay w6 w' ∧ (Instr.lookup 208 (.map (some mb)) (idV x) false).run Tryz.prog w' = .ok (.int .i64 c) w') 6 (by kernel_rfl) (by kernel_rfl) ?_
            refine take_S 0 rfl (by kernel_rfl) (by kernel_rfl) hS0 (fun w' hS => by go_simp; rfl) ?_
            refine take_S 1 rfl (by kernel_rfl) (by kernel_rfl) hS0 (fun w' hS => by have A0 := hS.1 _ _ x0; have A1 := hS.1 _ _ x1; go_simp; rfl) ?_
            refine take_S 2 rfl (by kernel_rfl) (by kernel_rfl) hS0 (fun w' hS => by have A0 := hS.2; go_simp; rfl) ?_
            refine take_S 3 (v := .int .i64 (c + 1)) rfl (by kernel_rfl) (by kernel_rfl) hS0 (fun w' hS => by have W := HWR.out; go_simp) ?_
            refine carry_S 4 rfl (by kernel_rfl) (by decide) (by kernel_rfl) (fun K hK => ?_)
            go_simp
            refine hK _ _ hS1 ?_
            clear hK K
            try simp only [Act.put, List.getElem_toArray, List.getElem_cons_succ, List.getElem_cons_zero, List.setIfInBounds_toArray, List.set_cons_zero, List.set_cons_succ]
            refine take_S 5 (v := .int .i64 (st : Int)) rfl (by kernel_rfl) (by kernel_rfl) hS1 (fun w' hS => by go_simp) (forced_S (by kernel_rfl) ?_)
            try simp only [Act.put, List.getElem_toArray, List.getElem_cons_succ, List.getElem_cons_zero, List.setIfInBounds_toArray, List.set_cons_zero, List.set_cons_succ]
            simp only [List.drop_succ_cons, List.drop_zero]
            go_wp2
            go_roundg (r.ids.length - (j + 1))
            case measure => omega
            case rel => exact ⟨j + 1, V', by go_num, hjl, rfl, by omega, HJ'⟩
          · obtain rfl : j = r.ids.length := by omega
            have H5 : Hid (UsIn mb V (useS (fs.take (k + 1)) rep) w1 wr) := Lib.hid ⟨Hj.out.map, Hj.out.um.to (fun y => by rw [HUY.out, List.take_length]), Hj.out.bel, Hj.out.ge⟩
            go_wp2
            go_roundg (fs.length - (k + 1))
            case measure => omega
            case rel => exact ⟨k + 1, V, by go_num, by rw [← HNW.out], hkl, rfl, by omega, H5⟩
      · have HN := Lib.hid (HNN.out he)
        have HUN : Hid (∀ y, useS (fs.take (k + 1)) rep y = useS (fs.take k) rep y) := Lib.hid (fun y => by rw [HUS.out, if_neg he, Int.add_zero])
        have hne := idq_ne he
        clear he
        rcases hne with t1 | ⟨t1, t2⟩
        · go_wp2
          generalize wr.alloc (.cells #[VT r.name, .int .i64 r.len, .int .u32 (r.print : Int), .slice SA r.ids.length sc] 65) = w3 at *
          have hS0 : Below w3.heap.size w3 w3.drew := (Below.refl _ _).drew
          refine region_S (fun w' => Below w3.heap.size w3 w') 3 (by kernel_rfl) (by kernel_rfl) ?_
          refine take_S 0 rfl (by kernel_rfl) (by kernel_rfl) hS0 (fun w' hS => by obtain ⟨A0, A1, A2, A3, _⟩ := BR3.out.below hS BR3.out.lt; go_simp; rfl) ?_
          refine take_S 2 rfl (by kernel_rfl) (by kernel_rfl) hS0 (fun w' hS => by obtain ⟨A0, A1, _, _⟩ := RP3.out.below hS RP3.out.lt; go_simp; rfl) ?_
          refine carry_S 1 rfl (by kernel_rfl) (by decide) (by kernel_rfl) (fun K hK => ?_)
          go_simp
          refine (RcRep_any (.agg #[VT r.name, .int .i64 r.len, .int .u32 (r.print : Int), .slice SA r.ids.length sc]) r hrc _ ⟨_, rfl, (HSL3.out.keep hS0 (Nat.le_refl _)).more hS0.size⟩).mono ?_
          rintro e w4 ⟨rfl, hbw4⟩
          have hS1 : Below w3.heap.size w3 w4 := hS0.trans (hbw4.mono hS0.size)
          refine hK _ _ hS1 (forced_S (by kernel_rfl) ?_)
          clear hK K
          try simp only [Act.put, List.getElem_toArray, List.getElem_cons_succ, List.getElem_cons_zero, List.setIfInBounds_toArray, List.set_cons_zero, List.set_cons_succ]
          try simp only [Act.put, List.getElem_toArray, List.getElem_cons_succ, List.getElem_cons_zero, List.setIfInBounds_toArray, List.set_cons_zero, List.set_cons_succ]
          simp only [List.drop_succ_cons, List.drop_zero]
          have HB4 := Lib.hid hS1
          have H4 := Lib.hid (H3.out.below hS1)
          have BR4 := Lib.hid (BR3.out.below hS1 BR3.out.lt)
          clear hS0 hS1 hbw4
          have H5 : Hid (UsIn mb U (useS (fs.take (k + 1)) rep) w1 w4) := Lib.hid ⟨H4.out.map, H4.out.um.to HUN.out, H4.out.bel, H4.out.ge⟩
          go_wp2
          go_roundg (fs.length - (k + 1))
          case measure => omega
          case rel => exact ⟨k + 1, U, by go_num, by rw [HN.out], hkl, rfl, by omega, H5⟩
        · go_wp2
          generalize wr.alloc (.cells #[VT r.name, .int .i64 r.len, .int .u32 (r.print : Int), .slice SA r.ids.length sc] 65) = w3 at *
          have hS0 : Below w3.heap.size w3 w3.drew := (Below.refl _ _).drew
          refine region_S (fun w' => Below w3.heap.size w3 w') 3 (by kernel_rfl) (by kernel_rfl) ?_
          refine take_S 0 rfl (by kernel_rfl) (by kernel_rfl) hS0 (fun w' hS => by obtain ⟨A0, A1, A2, A3, _⟩ := BR3.out.below hS BR3.out.lt; go_simp; rfl) ?_
          refine take_S 2 rfl (by kernel_rfl) (by kernel_rfl) hS0 (fun w' hS => by obtain ⟨A0, A1, _, _⟩ := RP3.out.below hS RP3.out.lt; go_simp; rfl) ?_
          refine carry_S 1 rfl (by kernel_rfl) (by decide) (by kernel_rfl) (fun K hK => ?_)
          go_simp
          refine (RcRep_any (.agg #[VT r.name, .int .i64 r.len, .int .u32 (r.print : Int), .slice SA r.ids.length sc]) r hrc _ ⟨_, rfl, (HSL3.out.keep hS0 (Nat.le_refl _)).more hS0.size⟩).mono ?_
          rintro e w4 ⟨rfl, hbw4⟩
          have hS1 : Below w3.heap.size w3 w4 := hS0.trans (hbw4.mono hS0.size)
          refine hK _ _ hS1 (forced_S (by kernel_rfl) ?_)
          clear hK K
          try simp only [Act.put, List.getElem_toArray, List.getElem_cons_succ, List.getElem_cons_zero, List.setIfInBounds_toArray, List.set_cons_zero, List.set_cons_succ]
          try simp only [Act.put, List.getElem_toArray, List.getElem_cons_succ, List.getElem_cons_zero, List.setIfInBounds_toArray, List.set_cons_zero, List.set_cons_succ]
          simp only [List.drop_succ_cons, List.drop_zero]
          have HB4 := Lib.hid hS1
          have H4 := Lib.hid (H3.out.below hS1)
          have BR4 := Lib.hid (BR3.out.below hS1 BR3.out.lt)
          clear hS0 hS1 hbw4
          have H5 : Hid (UsIn mb U (useS (fs.take (k + 1)) rep) w1 w4) := Lib.hid ⟨H4.out.map, H4.out.um.to HUN.out, H4.out.bel, H4.out.ge⟩
          go_wp2
          go_roundg (fs.length - (k + 1))
          case measure => omega
          case rel => exact ⟨k + 1, U, by go_num, by rw [HN.out], hkl, rfl, by omega, H5⟩
    · obtain rfl : k = fs.length := by omega
      have HQ : Hid (UsesPost fs rep w (.returned (.tuple #[.map (some mb), .int .i64 (nS (fs.take fs.length) rep : Int)])) wr) := Lib.hid ⟨mb, U, by rw [List.take_length], H.out.map, by have := H.out.um; rw [List.take_length] at this; exact this, HB1.out.trans (H.out.bel.mono HB1.out.size)⟩
      go_wp2
      go_ret2
      exact HQ.out
end Go.Proofs.YtpanoplcamdnkaaGreatDoor
/- Walk of scrub.one: is one bin right? Condition: the sentinels that are read lie as named (SomeS). -/
namespace Go.Proofs.YtpanoplcamdnkaaGreatDoor
open Go.RowKit Go.Lib Go.Maps Go.WideMaps

def prevH (L : HldL) (k : Nat) : Option Hld := if k = 0 then none else L[k - 1]?
theorem prevH_next {L : HldL} {k : Nat} (hk : k < L.length) : prevH L (k + 1) = some L[k] := by
  unfold prevH
  rw [if_neg (by omega), Nat.add_sub_cancel, List.getElem?_eq_getElem hk]
theorem oneL_drop {fs : List Rcp} {x : Idn} {L : HldL} {k : Nat} (hk : k < L.length) : oneL fs x (prevH L k) (L.drop k) = if markAt L k L[k] ≠ 0 then markAt L k L[k] else if L[k].uses ≠ useS fs x L[k].id then 11 else oneL fs x (prevH L (k + 1)) (L.drop (k + 1)) := by
  rw [List.drop_eq_getElem_cons hk, prevH_next hk]; rfl
theorem oneL_end (fs : List Rcp) (x : Idn) (q : Option Hld) (L : HldL) : oneL fs x q (L.drop L.length) = 0 := by rw [List.drop_length]; rfl
theorem oneL_mark {fs : List Rcp} {x : Idn} {L : HldL} {k : Nat} {c : Int} (hk : k < L.length) (h : markAt L k L[k] = c) (hc : c ≠ 0) : oneL fs x (prevH L k) (L.drop k) = c := by rw [oneL_drop hk, if_pos (by rw [h]; exact hc), h]
theorem oneL_used {fs : List Rcp} {x : Idn} {L : HldL} {k : Nat} (hk : k < L.length) (h : markAt L k L[k] = 0) (hu : L[k].uses ≠ useS fs x L[k].id) : oneL fs x (prevH L k) (L.drop k) = 11 := by rw [oneL_drop hk, if_neg (by rw [h]; simp), if_pos hu]
theorem oneL_next {fs : List Rcp} {x : Idn} {L : HldL} {k : Nat} (hk : k < L.length) (h : markAt L k L[k] = 0) (hu : L[k].uses = useS fs x L[k].id) : oneL fs x (prevH L k) (L.drop k) = oneL fs x (prevH L (k + 1)) (L.drop (k + 1)) := by rw [oneL_drop hk, if_neg (by rw [h]; simp), if_neg (by simp [hu])]
def SOnePost (a : Nat → Addr) (c : Int) (w : World) (e : Ending) (w' : World) : Prop := ∃ x, e = .returned x ∧ ES a x c ∧ Below w.heap.size w w'
theorem mark_at0 {L : HldL} {k : Nat} (hk : k < L.length) (h0 : k = 0) (e : idOf L[k].text = L[k].id) : markAt L k L[k] = 0 := by
  subst h0
  exact mark_first hk e
set_option maxRecDepth 100000 in
set_option maxHeartbeats 8000000 in
theorem ScOne_any (a : Nat → Addr) (vf vl : Value) (fs : List Rcp) (hfl : fs.length ≤ 30) (hok : ∀ r ∈ fs, r.ids.length ≤ 250 ∧ ∀ x ∈ r.ids, IdOk0 x) (rep : Idn) (L : HldL) (hl : L.length ≤ 1000000) (hL : ∀ x ∈ L, HldW x ∧ x.text.length ≤ 1000000000) (w : World) (hf : RsRd w w.heap.size vf fs) (hv : RdL w w.heap.size vl L) (hs : SomeS [2, 7, 8, 10] a w) :
    Calls Tryz.prog 79 #[vf, idV rep, vl] w (SOnePost a (oneS fs rep L) w) := by
  have hb1 : Below w.heap.size w (w.alloc (.cells #[.int .u32 (rep.1 : Int), .int .i64 rep.2] 47)) := (Below.refl _ _).alloc (Nat.le_refl _) _
  have HU := Lib.hid (ScUses_any vf fs hfl hok rep (w.alloc (.cells #[.int .u32 (rep.1 : Int), .int .i64 rep.2] 47)) (hf.below hb1))
  obtain ⟨FA, fc, hvf, _⟩ := id hf
  subst hvf
  obtain ⟨A, c, hvl, hcap, hcells⟩ := hv.form
  subst hvl
  have HB1 := Lib.hid hb1
  have HC := Lib.hid hcells
  have HS := Lib.hid hs
  have HLW := Lib.hid hL
  clear hb1 hcells hs hf hv hok hL
  go_enter Tryz.func79, Tryz.ntmps79
  go_wp2_with fail
  refine HU.out.mono ?_
  rintro e w2 ⟨mb, U, rfl, hM, hUM, hb2⟩
  have HB2 := Lib.hid (HB1.out.trans (hb2.mono HB1.out.size))
  have HM := Lib.hid hM
  have HUM := Lib.hid hUM
  have HS2 := Lib.hid (HS.out.below HB2.out)
  have hnb := nS_le fs rep
  clear hb2 hM hUM HU HB1 HS
  by_cases hn0 : nS fs rep = 0
  · have hi0 : (((nS fs rep : Nat) : Int) == 0) = true := by rw [hn0]; rfl
    have hi1 : ((nS fs rep : Nat) : Int) = 0 := by omega
    have HO : Hid (oneS fs rep L = 3) := Lib.hid (if_pos hn0)
    have s2 : w2.cell? ⟨8, 0, none⟩ = some (sval a 2) := HS2.out 2 (by simp)
    unfold sval at s2
    have HQ : Hid (SOnePost a (oneS fs rep L) w (.returned (.iface 361 (.pointer (some (a 2))))) w2) := Lib.hid ⟨_, rfl, by rw [HO.out]; exact ES.sent a 2 (by decide), HB2.out⟩
    clear hn0
    go_wp2
    go_ret
    exact HQ.out
  · have hi0 : (((nS fs rep : Nat) : Int) == 0) = false := by rw [beq_eq_false_iff_ne]; omega
    have hi1 : ¬ ((nS fs rep : Nat) : Int) = 0 := by omega
    have HO : Hid (oneS fs rep L = oneL fs rep none L) := Lib.hid (if_neg hn0)
    clear hn0
    generalize nS fs rep = nn at *
    go_wp2
    go_loopg [22] L.length (fun gh v22 wr => ∃ k : Nat, v22 = .int .i64 k ∧ k ≤ L.length ∧ gh = L.length - k ∧ Hid (oneL fs rep none L = oneL fs rep (prevH L k) (L.drop k)) ∧ Hid (Below w2.heap.size w2 wr))
    case atStart => exact ⟨0, rfl, Nat.zero_le _, rfl, Lib.hid rfl, Lib.hid (Below.refl _ _)⟩
    case round =>
      obtain ⟨k, rfl, hk, hgm, HOK, HBr⟩ := hrel
      by_cases hkl : k < L.length
      · obtain ⟨g, o, rfl, hg, hx⟩ := HC.out (by omega)
        have hg2 : g < w2.heap.size := Nat.lt_of_lt_of_le hg HB2.out.size
        have HX : Hid (True ∧ ∀ j (hj : j < L.length), w2.cell? ⟨g, o + j * 4, none⟩ = some (.int .u32 (L[j].id.1 : Int)) ∧ w2.cell? ⟨g, o + j * 4 + 1, none⟩ = some (.int .i64 L[j].id.2) ∧ w2.cell? ⟨g, o + j * 4 + 2, none⟩ = some (.int .i64 L[j].uses) ∧ w2.cell? ⟨g, o + j * 4 + 3, none⟩ = some (.string (bs L[j].text))) := Lib.hid ⟨trivial, fun j hj => by
          obtain ⟨x0, x1, x2, x3⟩ := hx j hj
          exact ⟨(HB2.out.cell (p := ⟨g, o + j * 4, none⟩) hg).trans x0, (HB2.out.cell (p := ⟨g, o + j * 4 + 1, none⟩) hg).trans x1, (HB2.out.cell (p := ⟨g, o + j * 4 + 2, none⟩) hg).trans x2, (HB2.out.cell (p := ⟨g, o + j * 4 + 3, none⟩) hg).trans x3⟩⟩
        obtain ⟨x0, x1, x2, x3⟩ := HX.out.2 k hkl
        have y0 := (HBr.out.cell (p := ⟨g, o + k * 4, none⟩) hg2).trans x0
        have y1 := (HBr.out.cell (p := ⟨g, o + k * 4 + 1, none⟩) hg2).trans x1
        have y2 := (HBr.out.cell (p := ⟨g, o + k * 4 + 2, none⟩) hg2).trans x2
        have y3 := (HBr.out.cell (p := ⟨g, o + k * 4 + 3, none⟩) hg2).trans x3
        obtain ⟨hhw, htx⟩ := HLW.out L[k] (List.getElem_mem hkl)
        have b1 : (0 : Int) ≤ (k : Int) := by omega
        have b2 : (k : Int) < (L.length : Int) := by omega
        obtain ⟨h, hh⟩ : ∃ h, L[k] = h := ⟨_, rfl⟩
        rw [hh] at x0 x1 x2 x3 y0 y1 y2 y3 hhw htx
        have HLE := Lib.hid hh
        have HLK : Hid (∀ w', AlMap Tryz.prog 47 idLit intV mb U w' → (Instr.lookup 208 (.map (some mb)) (.agg #[.int .u32 (h.id.1 : Int), .int .i64 h.id.2]) false).run Tryz.prog w' = .ok (.int .i64 (useS fs rep h.id)) w') := Lib.hid (fun w' hm => by
          have := hm.at idRd HUM.out.keys Tryz.underlying208 (zeroInt w') hhw.1
          rw [← HUM.out.val h.id]
          refine this.trans ?_
          cases alGet U h.id <;> rfl)
        obtain ⟨_, hu1, hu2⟩ := hhw
        have hb3 : Below wr.heap.size wr (wr.alloc (.cells #[.int .u32 (h.id.1 : Int), .int .i64 h.id.2, .int .i64 h.uses, .string (bs h.text)] 82)) := (Below.refl _ _).alloc (Nat.le_refl _) _
        have HB3 := Lib.hid (HBr.out.trans (hb3.mono HBr.out.size))
        have BX3 := Lib.hid (Box4.mk' wr (.int .u32 (h.id.1 : Int)) (.int .i64 h.id.2) (.int .i64 h.uses) (.string (bs h.text)) 82)
        clear hx x0 x1 x2 x3 hb3 hh
        by_cases hid : idOf h.text = h.id
        · obtain ⟨q1, q2⟩ := idq_eqs hid
          have HID := Lib.hid hid
          clear hid
          go_wp2
          generalize wr.alloc (.cells #[.int .u32 (h.id.1 : Int), .int .i64 h.id.2, .int .i64 h.uses, .string (bs h.text)] 82) = w3 at *
          have hS0 : Below w3.heap.size w3 w3.drew := (Below.refl _ _).drew
          refine region_S (fun w' => Below w3.heap.size w3 w') 6 (by kernel_rfl) (by kernel_rfl) ?_
          refine take_S 0 rfl (by kernel_rfl) (by kernel_rfl) hS0 (fun w' hS => by go_simp; rfl) ?_
          refine take_S 1 rfl (by kernel_rfl) (by kernel_rfl) hS0 (fun w' hS => by obtain ⟨A0, A1, A2, A3, _⟩ := BX3.out.below hS BX3.out.lt; go_simp; rfl) ?_
          refine take_S 3 rfl (by kernel_rfl) (by kernel_rfl) hS0 (fun w' hS => by go_simp; rfl) ?_
          refine take_S 4 rfl (by kernel_rfl) (by kernel_rfl) hS0 (fun w' hS => by obtain ⟨A0, A1, A2, A3, _⟩ := BX3.out.below hS BX3.out.lt; go_simp; rfl) ?_
          refine carry_S 2 rfl (by kernel_rfl) (by decide) (by kernel_rfl) (fun K hK => ?_)
          go_simp
          refine (ID_bs h.text (by unfold maxLen; omega) _).mono ?_
          rintro e w4 ⟨rfl, hbw4⟩
          have hS1 : Below w3.heap.size w3 w4 := hS0.trans (hbw4.mono hS0.size)
          refine hK _ _ hS1 ?_
          clear hK K
          try simp only [Act.put, List.getElem_toArray, List.getElem_cons_succ, List.getElem_cons_zero, List.setIfInBounds_toArray, List.set_cons_zero, List.set_cons_succ]
          refine take_S 5 rfl (by kernel_rfl) (by kernel_rfl) hS1 (fun w' hS => by go_simp; rfl) (forced_S (by kernel_rfl) ?_)
          try simp only [Act.put, List.getElem_toArray, List.getElem_cons_succ, List.getElem_cons_zero, List.setIfInBounds_toArray, List.set_cons_zero, List.set_cons_succ]
          simp only [List.drop_succ_cons, List.drop_zero]
          have HB4 := Lib.hid (HB3.out.trans (hS1.mono HB3.out.size))
          have BX4 := Lib.hid (BX3.out.below hS1 BX3.out.lt)
          clear hS0 hS1 hbw4
          clear q1 q2
          by_cases hk0 : k = 0
          · have HM0 : Hid (markAt L k L[k] = 0) := Lib.hid (mark_at0 hkl hk0 (HLE.out.symm ▸ HID.out))
            have HNX := Lib.hid (fun h' => HOK.out.trans (oneL_next (fs := fs) (x := rep) hkl HM0.out (HLE.out.symm ▸ h')))
            have HNU := Lib.hid (fun h' => HOK.out.trans (oneL_used (fs := fs) (x := rep) hkl HM0.out (HLE.out.symm ▸ h')))
            have b7 : ¬ ((k : Int) > 0) := by omega
            have HK0 := Lib.hid hk0
            clear hk0
            go_wp2
            have hT0 : Below w4.heap.size w4 w4.drew := (Below.refl _ _).drew
            refine region_S (fun w' => Below w4.heap.size w4 w') 14 (by kernel_rfl) (by kernel_rfl) ?_
            refine take_S 0 rfl (by kernel_rfl) (by kernel_rfl) hT0 (fun w' hS => by go_simp; rfl) ?_
            refine take_S 1 (v := .bool false) rfl (by kernel_rfl) (by kernel_rfl) hT0 (fun w' hS => by have W3 := HK0.out; go_simp) ?_
            refine take_S 2 rfl (by kernel_rfl) (by kernel_rfl) hT0 (fun w' hS => by go_simp; rfl) ?_
            refine skip_S 3 rfl (by kernel_rfl) (by kernel_rfl) hT0 ?_
            refine skip_S 4 rfl (by kernel_rfl) (by kernel_rfl) hT0 ?_
            refine skip_S 5 rfl (by kernel_rfl) (by kernel_rfl) hT0 ?_
            refine skip_S 6 rfl (by kernel_rfl) (by kernel_rfl) hT0 ?_
            refine skip_S 7 rfl (by kernel_rfl) (by kernel_rfl) hT0 ?_
            refine skip_S 8 rfl (by kernel_rfl) (by kernel_rfl) hT0 ?_
            refine skip_S 9 rfl (by kernel_rfl) (by kernel_rfl) hT0 ?_
            refine skip_S 10 rfl (by kernel_rfl) (by kernel_rfl) hT0 ?_
            refine skip_S 11 rfl (by kernel_rfl) (by kernel_rfl) hT0 ?_
            refine skip_S 12 rfl (by kernel_rfl) (by kernel_rfl) hT0 ?_
            refine take_S 13 rfl (by kernel_rfl) (by kernel_rfl) hT0 (fun w' hS => by go_simp; rfl) (forced_S (by kernel_rfl) ?_)
            try simp only [Act.put, List.getElem_toArray, List.getElem_cons_succ, List.getElem_cons_zero, List.setIfInBounds_toArray, List.set_cons_zero, List.set_cons_succ]
            simp only [List.drop_succ_cons, List.drop_zero]
            have HB5 := Lib.hid (HB4.out.trans (hT0.mono HB4.out.size))
            have BX5 := Lib.hid (BX4.out.below hT0 BX4.out.lt)
            clear hT0
            have HM5 := Lib.hid (HM.out.below HB5.out)
            by_cases hu : h.uses = useS fs rep h.id
            · have HN2 := Lib.hid (HNX.out hu)
              have u1 : (h.uses != useS fs rep h.id) = false := by rw [bne_eq_false_iff_eq]; exact hu
              have u2 : (h.uses == useS fs rep h.id) = true := by rw [beq_iff_eq]; exact hu
              clear hu
              generalize useS fs rep h.id = u at *
              go_wp2
              have hU0 : Below w4.drew.heap.size w4.drew w4.drew.drew := (Below.refl _ _).drew
              refine region_S (fun w' => Below w4.drew.heap.size w4.drew w') 7 (by kernel_rfl) (by kernel_rfl) ?_
              refine take_S 0 rfl (by kernel_rfl) (by kernel_rfl) hU0 (fun w' hS => by go_simp; rfl) ?_
              refine take_S 1 rfl (by kernel_rfl) (by kernel_rfl) hU0 (fun w' hS => by obtain ⟨A0, A1, A2, A3, _⟩ := BX5.out.below hS BX5.out.lt; go_simp; rfl) ?_
              refine take_S 2 rfl (by kernel_rfl) (by kernel_rfl) hU0 (fun w' hS => by go_simp; rfl) ?_
              refine take_S 3 rfl (by kernel_rfl) (by kernel_rfl) hU0 (fun w' hS => by go_simp; rfl) ?_
              refine take_S 4 rfl (by kernel_rfl) (by kernel_rfl) hU0 (fun w' hS => by obtain ⟨A0, A1, A2, A3, _⟩ := BX5.out.below hS BX5.out.lt; go_simp; rfl) ?_
              refine take_S 5 rfl (by kernel_rfl) (by kernel_rfl) hU0 (fun w' hS => by have B0 := HLK.out w' (HM5.out.below hS); go_simp; rfl) ?_
              refine take_S 6 rfl (by kernel_rfl) (by kernel_rfl) hU0 (fun w' hS => by go_simp; rfl) (forced_S (by kernel_rfl) ?_)
              try simp only [Act.put, List.getElem_toArray, List.getElem_cons_succ, List.getElem_cons_zero, List.setIfInBounds_toArray, List.set_cons_zero, List.set_cons_succ]
              simp only [List.drop_succ_cons, List.drop_zero]
              have HB6 := Lib.hid (HB5.out.trans (hU0.mono HB5.out.size))
              clear hU0
              go_wp2
              go_roundg (L.length - (k + 1))
              case measure => omega
              case rel => exact ⟨k + 1, by go_num, hkl, rfl, HN2, HB6⟩
            · have HZ := Lib.hid (HNU.out hu)
              have u1 : (h.uses != useS fs rep h.id) = true := by rw [bne_iff_ne]; exact hu
              have u2 : (h.uses == useS fs rep h.id) = false := by rw [beq_eq_false_iff_ne]; exact hu
              clear hu
              generalize useS fs rep h.id = u at *
              go_wp2
              have hU0 : Below w4.drew.heap.size w4.drew w4.drew.drew := (Below.refl _ _).drew
              refine region_S (fun w' => Below w4.drew.heap.size w4.drew w') 7 (by kernel_rfl) (by kernel_rfl) ?_
              refine take_S 0 rfl (by kernel_rfl) (by kernel_rfl) hU0 (fun w' hS => by go_simp; rfl) ?_
              refine take_S 1 rfl (by kernel_rfl) (by kernel_rfl) hU0 (fun w' hS => by obtain ⟨A0, A1, A2, A3, _⟩ := BX5.out.below hS BX5.out.lt; go_simp; rfl) ?_
              refine take_S 2 rfl (by kernel_rfl) (by kernel_rfl) hU0 (fun w' hS => by go_simp; rfl) ?_
              refine take_S 3 rfl (by kernel_rfl) (by kernel_rfl) hU0 (fun w' hS => by go_simp; rfl) ?_
              refine take_S 4 rfl (by kernel_rfl) (by kernel_rfl) hU0 (fun w' hS => by obtain ⟨A0, A1, A2, A3, _⟩ := BX5.out.below hS BX5.out.lt; go_simp; rfl) ?_
              refine take_S 5 rfl (by kernel_rfl) (by kernel_rfl) hU0 (fun w' hS => by have B0 := HLK.out w' (HM5.out.below hS); go_simp; rfl) ?_
              refine take_S 6 rfl (by kernel_rfl) (by kernel_rfl) hU0 (fun w' hS => by go_simp; rfl) (forced_S (by kernel_rfl) ?_)
              try simp only [Act.put, List.getElem_toArray, List.getElem_cons_succ, List.getElem_cons_zero, List.setIfInBounds_toArray, List.set_cons_zero, List.set_cons_succ]
              simp only [List.drop_succ_cons, List.drop_zero]
              have HB6 := Lib.hid (HB5.out.trans (hU0.mono HB5.out.size))
              clear hU0
              have s10 : w4.drew.drew.cell? ⟨6, 0, none⟩ = some (sval a 10) := (HS2.out.below HB6.out) 10 (by simp)
              unfold sval at s10
              have HQ : Hid (SOnePost a (oneS fs rep L) w (.returned (.iface 361 (.pointer (some (a 10))))) w4.drew.drew) := Lib.hid ⟨_, rfl, by rw [HO.out, HZ.out]; exact ES.sent a 10 (by decide), HB2.out.trans (HB6.out.mono HB2.out.size)⟩
              go_wp2
              go_ret
              exact HQ.out
          · obtain ⟨j, rfl⟩ : ∃ j, k = j + 1 := ⟨k - 1, by omega⟩
            obtain ⟨d0, d1, _, _⟩ := HX.out.2 j (by omega)
            have hMN := mark_next hkl (HLE.out.symm ▸ HID.out)
            rw [HLE.out] at hMN
            have hg4 : g < w4.heap.size := Nat.lt_of_lt_of_le hg2 HB4.out.size
            have D0 := Lib.hid ((HB4.out.cell (p := ⟨g, o + j * 4, none⟩) hg2).trans d0)
            have D1 := Lib.hid ((HB4.out.cell (p := ⟨g, o + j * 4 + 1, none⟩) hg2).trans d1)
            generalize hlj : L[j] = p at *
            clear d0 d1 hk0 hlj
            have b3 : (j : Int) + 1 > 0 := by omega
            have HWR : Hid (IntKind.i64.wrap (j : Int) = (j : Int)) := Lib.hid (IntWalk.i64_in _ (by omega))
            have b4 : (j : Int) < (L.length : Int) := by omega
            have b5 : j < L.length := by omega
            cases hlt : lesser p.id h.id with
            | true =>
              have HLT : Hid (lessId p.id.1 h.id.1 p.id.2 h.id.2 = true) := Lib.hid hlt
              have HM0 : Hid (markAt L (j + 1) L[j + 1] = 0) := Lib.hid (by rw [HLE.out, hMN, hlt]; rfl)
              clear hMN hlt
              have HNX := Lib.hid (fun h' => HOK.out.trans (oneL_next (fs := fs) (x := rep) hkl HM0.out (HLE.out.symm ▸ h')))
              have HNU := Lib.hid (fun h' => HOK.out.trans (oneL_used (fs := fs) (x := rep) hkl HM0.out (HLE.out.symm ▸ h')))
              go_wp2
              have hT0 : Below w4.heap.size w4 w4.drew := (Below.refl _ _).drew
              refine region_S (fun w' => Below w4.heap.size w4 w') 14 (by kernel_rfl) (by kernel_rfl) ?_
              refine take_S 0 rfl (by kernel_rfl) (by kernel_rfl) hT0 (fun w' hS => by go_simp; rfl) ?_
              refine take_S 1 rfl (by kernel_rfl) (by kernel_rfl) hT0 (fun w' hS => by go_simp; rfl) ?_
              refine take_S 2 rfl (by kernel_rfl) (by kernel_rfl) hT0 (fun w' hS => by go_simp; rfl) ?_
              refine take_S 3 rfl (by kernel_rfl) (by kernel_rfl) hT0 (fun w' hS => by go_simp; rfl) ?_
              refine take_S 4 rfl (by kernel_rfl) (by kernel_rfl) hT0 (fun w' hS => by go_simp; rfl) ?_
              refine take_S 5 (v := .int .i64 (j : Int)) rfl (by kernel_rfl) (by kernel_rfl) hT0 (fun w' hS => by have W1 := b3; have W2 := HWR.out; go_simp) ?_
              refine take_S 6 rfl (by kernel_rfl) (by kernel_rfl) hT0 (fun w' hS => by go_simp; rfl) ?_
              refine take_S 7 rfl (by kernel_rfl) (by kernel_rfl) hT0 (fun w' hS => by go_simp; rfl) ?_
              refine take_S 8 rfl (by kernel_rfl) (by kernel_rfl) hT0 (fun w' hS => by have A0 := (hS.cell (p := ⟨g, o + j * 4, none⟩) hg4).trans D0.out; have A1 := (hS.cell (p := ⟨g, o + j * 4 + 1, none⟩) hg4).trans D1.out; go_simp; rfl) ?_
              refine take_S 9 rfl (by kernel_rfl) (by kernel_rfl) hT0 (fun w' hS => by go_simp; rfl) ?_
              refine take_S 10 rfl (by kernel_rfl) (by kernel_rfl) hT0 (fun w' hS => by obtain ⟨A0, A1, A2, A3, _⟩ := BX4.out.below hS BX4.out.lt; go_simp; rfl) ?_
              refine carry_S 11 rfl (by kernel_rfl) (by decide) (by kernel_rfl) (fun K hK => ?_)
              go_simp
              refine (PLess_any p.id.1 h.id.1 p.id.2 h.id.2 _).mono ?_
              rintro e w5 ⟨rfl, hbw5⟩
              have hT1 : Below w4.heap.size w4 w5 := hT0.trans (hbw5.mono hT0.size)
              refine hK _ _ hT1 ?_
              clear hK K
              try simp only [Act.put, List.getElem_toArray, List.getElem_cons_succ, List.getElem_cons_zero, List.setIfInBounds_toArray, List.set_cons_zero, List.set_cons_succ]
              rw [HLT.out]
              refine take_S 12 rfl (by kernel_rfl) (by kernel_rfl) hT1 (fun w' hS => by go_simp; rfl) ?_
              refine take_S 13 rfl (by kernel_rfl) (by kernel_rfl) hT1 (fun w' hS => by go_simp; rfl) (forced_S (by kernel_rfl) ?_)
              try simp only [Act.put, List.getElem_toArray, List.getElem_cons_succ, List.getElem_cons_zero, List.setIfInBounds_toArray, List.set_cons_zero, List.set_cons_succ]
              simp only [List.drop_succ_cons, List.drop_zero]
              have HB5 := Lib.hid (HB4.out.trans (hT1.mono HB4.out.size))
              have BX5 := Lib.hid (BX4.out.below hT1 BX4.out.lt)
              clear hT0 hT1 hbw5
              have HM5 := Lib.hid (HM.out.below HB5.out)
              by_cases hu : h.uses = useS fs rep h.id
              · have HN2 := Lib.hid (HNX.out hu)
                have u1 : (h.uses != useS fs rep h.id) = false := by rw [bne_eq_false_iff_eq]; exact hu
                have u2 : (h.uses == useS fs rep h.id) = true := by rw [beq_iff_eq]; exact hu
                clear hu
                generalize useS fs rep h.id = u at *
                go_wp2
                have hU0 : Below w5.heap.size w5 w5.drew := (Below.refl _ _).drew
                refine region_S (fun w' => Below w5.heap.size w5 w') 7 (by kernel_rfl) (by kernel_rfl) ?_
                refine take_S 0 rfl (by kernel_rfl) (by kernel_rfl) hU0 (fun w' hS => by go_simp; rfl) ?_
                refine take_S 1 rfl (by kernel_rfl) (by kernel_rfl) hU0 (fun w' hS => by obtain ⟨A0, A1, A2, A3, _⟩ := BX5.out.below hS BX5.out.lt; go_simp; rfl) ?_
                refine take_S 2 rfl (by kernel_rfl) (by kernel_rfl) hU0 (fun w' hS => by go_simp; rfl) ?_
                refine take_S 3 rfl (by kernel_rfl) (by kernel_rfl) hU0 (fun w' hS => by go_simp; rfl) ?_
                refine take_S 4 rfl (by kernel_rfl) (by kernel_rfl) hU0 (fun w' hS => by obtain ⟨A0, A1, A2, A3, _⟩ := BX5.out.below hS BX5.out.lt; go_simp; rfl) ?_
                refine take_S 5 rfl (by kernel_rfl) (by kernel_rfl) hU0 (fun w' hS => by have B0 := HLK.out w' (HM5.out.below hS); go_simp; rfl) ?_
                refine take_S 6 rfl (by kernel_rfl) (by kernel_rfl) hU0 (fun w' hS => by go_simp; rfl) (forced_S (by kernel_rfl) ?_)
                try simp only [Act.put, List.getElem_toArray, List.getElem_cons_succ, List.getElem_cons_zero, List.setIfInBounds_toArray, List.set_cons_zero, List.set_cons_succ]
                simp only [List.drop_succ_cons, List.drop_zero]
                have HB6 := Lib.hid (HB5.out.trans (hU0.mono HB5.out.size))
                clear hU0
                go_wp2
                go_roundg (L.length - (j + 1 + 1))
                case measure => omega
                case rel => exact ⟨j + 1 + 1, by go_num, hkl, rfl, HN2, HB6⟩
              · have HZ := Lib.hid (HNU.out hu)
                have u1 : (h.uses != useS fs rep h.id) = true := by rw [bne_iff_ne]; exact hu
                have u2 : (h.uses == useS fs rep h.id) = false := by rw [beq_eq_false_iff_ne]; exact hu
                clear hu
                generalize useS fs rep h.id = u at *
                go_wp2
                have hU0 : Below w5.heap.size w5 w5.drew := (Below.refl _ _).drew
                refine region_S (fun w' => Below w5.heap.size w5 w') 7 (by kernel_rfl) (by kernel_rfl) ?_
                refine take_S 0 rfl (by kernel_rfl) (by kernel_rfl) hU0 (fun w' hS => by go_simp; rfl) ?_
                refine take_S 1 rfl (by kernel_rfl) (by kernel_rfl) hU0 (fun w' hS => by obtain ⟨A0, A1, A2, A3, _⟩ := BX5.out.below hS BX5.out.lt; go_simp; rfl) ?_
                refine take_S 2 rfl (by kernel_rfl) (by kernel_rfl) hU0 (fun w' hS => by go_simp; rfl) ?_
                refine take_S 3 rfl (by kernel_rfl) (by kernel_rfl) hU0 (fun w' hS => by go_simp; rfl) ?_
                refine take_S 4 rfl (by kernel_rfl) (by kernel_rfl) hU0 (fun w' hS => by obtain ⟨A0, A1, A2, A3, _⟩ := BX5.out.below hS BX5.out.lt; go_simp; rfl) ?_
                refine take_S 5 rfl (by kernel_rfl) (by kernel_rfl) hU0 (fun w' hS => by have B0 := HLK.out w' (HM5.out.below hS); go_simp; rfl) ?_
                refine take_S 6 rfl (by kernel_rfl) (by kernel_rfl) hU0 (fun w' hS => by go_simp; rfl) (forced_S (by kernel_rfl) ?_)
                try simp only [Act.put, List.getElem_toArray, List.getElem_cons_succ, List.getElem_cons_zero, List.setIfInBounds_toArray, List.set_cons_zero, List.set_cons_succ]
                simp only [List.drop_succ_cons, List.drop_zero]
                have HB6 := Lib.hid (HB5.out.trans (hU0.mono HB5.out.size))
                clear hU0
                have s10 : w5.drew.cell? ⟨6, 0, none⟩ = some (sval a 10) := (HS2.out.below HB6.out) 10 (by simp)
                unfold sval at s10
                have HQ : Hid (SOnePost a (oneS fs rep L) w (.returned (.iface 361 (.pointer (some (a 10))))) w5.drew) := Lib.hid ⟨_, rfl, by rw [HO.out, HZ.out]; exact ES.sent a 10 (by decide), HB2.out.trans (HB6.out.mono HB2.out.size)⟩
                go_wp2
                go_ret
                exact HQ.out
            | false =>
              have HLT : Hid (lessId p.id.1 h.id.1 p.id.2 h.id.2 = false) := Lib.hid hlt
              have HZ : Hid (oneL fs rep none L = 8) := Lib.hid (HOK.out.trans (oneL_mark hkl (by rw [HLE.out, hMN, hlt]; rfl) (by decide)))
              clear hMN hlt
              go_wp2
              have hT0 : Below w4.heap.size w4 w4.drew := (Below.refl _ _).drew
              refine region_S (fun w' => Below w4.heap.size w4 w') 14 (by kernel_rfl) (by kernel_rfl) ?_
              refine take_S 0 rfl (by kernel_rfl) (by kernel_rfl) hT0 (fun w' hS => by go_simp; rfl) ?_
              refine take_S 1 rfl (by kernel_rfl) (by kernel_rfl) hT0 (fun w' hS => by go_simp; rfl) ?_
              refine take_S 2 rfl (by kernel_rfl) (by kernel_rfl) hT0 (fun w' hS => by go_simp; rfl) ?_
              refine take_S 3 rfl (by kernel_rfl) (by kernel_rfl) hT0 (fun w' hS => by go_simp; rfl) ?_
              refine take_S 4 rfl (by kernel_rfl) (by kernel_rfl) hT0 (fun w' hS => by go_simp; rfl) ?_
              refine take_S 5 (v := .int .i64 (j : Int)) rfl (by kernel_rfl) (by kernel_rfl) hT0 (fun w' hS => by have W1 := b3; have W2 := HWR.out; go_simp) ?_
              refine take_S 6 rfl (by kernel_rfl) (by kernel_rfl) hT0 (fun w' hS => by go_simp; rfl) ?_
              refine take_S 7 rfl (by kernel_rfl) (by kernel_rfl) hT0 (fun w' hS => by go_simp; rfl) ?_
              refine take_S 8 rfl (by kernel_rfl) (by kernel_rfl) hT0 (fun w' hS => by have A0 := (hS.cell (p := ⟨g, o + j * 4, none⟩) hg4).trans D0.out; have A1 := (hS.cell (p := ⟨g, o + j * 4 + 1, none⟩) hg4).trans D1.out; go_simp; rfl) ?_
              refine take_S 9 rfl (by kernel_rfl) (by kernel_rfl) hT0 (fun w' hS => by go_simp; rfl) ?_
              refine take_S 10 rfl (by kernel_rfl) (by kernel_rfl) hT0 (fun w' hS => by obtain ⟨A0, A1, A2, A3, _⟩ := BX4.out.below hS BX4.out.lt; go_simp; rfl) ?_
              refine carry_S 11 rfl (by kernel_rfl) (by decide) (by kernel_rfl) (fun K hK => ?_)
              go_simp
              refine (PLess_any p.id.1 h.id.1 p.id.2 h.id.2 _).mono ?_
              rintro e w5 ⟨rfl, hbw5⟩
              have hT1 : Below w4.heap.size w4 w5 := hT0.trans (hbw5.mono hT0.size)
              refine hK _ _ hT1 ?_
              clear hK K
              try simp only [Act.put, List.getElem_toArray, List.getElem_cons_succ, List.getElem_cons_zero, List.setIfInBounds_toArray, List.set_cons_zero, List.set_cons_succ]
              rw [HLT.out]
              refine take_S 12 rfl (by kernel_rfl) (by kernel_rfl) hT1 (fun w' hS => by go_simp; rfl) ?_
              refine take_S 13 rfl (by kernel_rfl) (by kernel_rfl) hT1 (fun w' hS => by go_simp; rfl) (forced_S (by kernel_rfl) ?_)
              try simp only [Act.put, List.getElem_toArray, List.getElem_cons_succ, List.getElem_cons_zero, List.setIfInBounds_toArray, List.set_cons_zero, List.set_cons_succ]
              simp only [List.drop_succ_cons, List.drop_zero]
              have HB5 := Lib.hid (HB4.out.trans (hT1.mono HB4.out.size))
              clear hT0 hT1 hbw5
              have s7 : w5.cell? ⟨7, 0, none⟩ = some (sval a 7) := (HS2.out.below HB5.out) 7 (by simp)
              unfold sval at s7
              have HQ : Hid (SOnePost a (oneS fs rep L) w (.returned (.iface 361 (.pointer (some (a 7))))) w5) := Lib.hid ⟨_, rfl, by rw [HO.out, HZ.out]; exact ES.sent a 7 (by decide), HB2.out.trans (HB5.out.mono HB2.out.size)⟩
              go_wp2
              go_ret
              exact HQ.out
        · have HZ : Hid (oneL fs rep none L = 9) := Lib.hid (HOK.out.trans (oneL_mark hkl (mark_sum hkl (HLE.out.symm ▸ hid)) (by decide)))
          have hne := idq_ne hid
          clear hid
          rcases hne with q1 | ⟨q1, q2⟩
          · go_wp2
            generalize wr.alloc (.cells #[.int .u32 (h.id.1 : Int), .int .i64 h.id.2, .int .i64 h.uses, .string (bs h.text)] 82) = w3 at *
            have hS0 : Below w3.heap.size w3 w3.drew := (Below.refl _ _).drew
            refine region_S (fun w' => Below w3.heap.size w3 w') 6 (by kernel_rfl) (by kernel_rfl) ?_
            refine take_S 0 rfl (by kernel_rfl) (by kernel_rfl) hS0 (fun w' hS => by go_simp; rfl) ?_
            refine take_S 1 rfl (by kernel_rfl) (by kernel_rfl) hS0 (fun w' hS => by obtain ⟨A0, A1, A2, A3, _⟩ := BX3.out.below hS BX3.out.lt; go_simp; rfl) ?_
            refine take_S 3 rfl (by kernel_rfl) (by kernel_rfl) hS0 (fun w' hS => by go_simp; rfl) ?_
            refine take_S 4 rfl (by kernel_rfl) (by kernel_rfl) hS0 (fun w' hS => by obtain ⟨A0, A1, A2, A3, _⟩ := BX3.out.below hS BX3.out.lt; go_simp; rfl) ?_
            refine carry_S 2 rfl (by kernel_rfl) (by decide) (by kernel_rfl) (fun K hK => ?_)
            go_simp
            refine (ID_bs h.text (by unfold maxLen; omega) _).mono ?_
            rintro e w4 ⟨rfl, hbw4⟩
            have hS1 : Below w3.heap.size w3 w4 := hS0.trans (hbw4.mono hS0.size)
            refine hK _ _ hS1 ?_
            clear hK K
            try simp only [Act.put, List.getElem_toArray, List.getElem_cons_succ, List.getElem_cons_zero, List.setIfInBounds_toArray, List.set_cons_zero, List.set_cons_succ]
            refine take_S 5 rfl (by kernel_rfl) (by kernel_rfl) hS1 (fun w' hS => by go_simp; rfl) (forced_S (by kernel_rfl) ?_)
            try simp only [Act.put, List.getElem_toArray, List.getElem_cons_succ, List.getElem_cons_zero, List.setIfInBounds_toArray, List.set_cons_zero, List.set_cons_succ]
            simp only [List.drop_succ_cons, List.drop_zero]
            have HB4 := Lib.hid (HB3.out.trans (hS1.mono HB3.out.size))
            have BX4 := Lib.hid (BX3.out.below hS1 BX3.out.lt)
            clear hS0 hS1 hbw4
            have s8 : w4.cell? ⟨10, 0, none⟩ = some (sval a 8) := (HS2.out.below HB4.out) 8 (by simp)
            unfold sval at s8
            have HQ : Hid (SOnePost a (oneS fs rep L) w (.returned (.iface 361 (.pointer (some (a 8))))) w4) := Lib.hid ⟨_, rfl, by rw [HO.out, HZ.out]; exact ES.sent a 8 (by decide), HB2.out.trans (HB4.out.mono HB2.out.size)⟩
            go_wp2
            go_ret
            exact HQ.out
          · go_wp2
            generalize wr.alloc (.cells #[.int .u32 (h.id.1 : Int), .int .i64 h.id.2, .int .i64 h.uses, .string (bs h.text)] 82) = w3 at *
            have hS0 : Below w3.heap.size w3 w3.drew := (Below.refl _ _).drew
            refine region_S (fun w' => Below w3.heap.size w3 w') 6 (by kernel_rfl) (by kernel_rfl) ?_
            refine take_S 0 rfl (by kernel_rfl) (by kernel_rfl) hS0 (fun w' hS => by go_simp; rfl) ?_
            refine take_S 1 rfl (by kernel_rfl) (by kernel_rfl) hS0 (fun w' hS => by obtain ⟨A0, A1, A2, A3, _⟩ := BX3.out.below hS BX3.out.lt; go_simp; rfl) ?_
            refine take_S 3 rfl (by kernel_rfl) (by kernel_rfl) hS0 (fun w' hS => by go_simp; rfl) ?_
            refine take_S 4 rfl (by kernel_rfl) (by kernel_rfl) hS0 (fun w' hS => by obtain ⟨A0, A1, A2, A3, _⟩ := BX3.out.below hS BX3.out.lt; go_simp; rfl) ?_
            refine carry_S 2 rfl (by kernel_rfl) (by decide) (by kernel_rfl) (fun K hK => ?_)
            go_simp
            refine (ID_bs h.text (by unfold maxLen; omega) _).mono ?_
            rintro e w4 ⟨rfl, hbw4⟩
            have hS1 : Below w3.heap.size w3 w4 := hS0.trans (hbw4.mono hS0.size)
            refine hK _ _ hS1 ?_
            clear hK K
            try simp only [Act.put, List.getElem_toArray, List.getElem_cons_succ, List.getElem_cons_zero, List.setIfInBounds_toArray, List.set_cons_zero, List.set_cons_succ]
            refine take_S 5 rfl (by kernel_rfl) (by kernel_rfl) hS1 (fun w' hS => by go_simp; rfl) (forced_S (by kernel_rfl) ?_)
            try simp only [Act.put, List.getElem_toArray, List.getElem_cons_succ, List.getElem_cons_zero, List.setIfInBounds_toArray, List.set_cons_zero, List.set_cons_succ]
            simp only [List.drop_succ_cons, List.drop_zero]
            have HB4 := Lib.hid (HB3.out.trans (hS1.mono HB3.out.size))
            have BX4 := Lib.hid (BX3.out.below hS1 BX3.out.lt)
            clear hS0 hS1 hbw4
            have s8 : w4.cell? ⟨10, 0, none⟩ = some (sval a 8) := (HS2.out.below HB4.out) 8 (by simp)
            unfold sval at s8
            have HQ : Hid (SOnePost a (oneS fs rep L) w (.returned (.iface 361 (.pointer (some (a 8))))) w4) := Lib.hid ⟨_, rfl, by rw [HO.out, HZ.out]; exact ES.sent a 8 (by decide), HB2.out.trans (HB4.out.mono HB2.out.size)⟩
            go_wp2
            go_ret
            exact HQ.out
      · obtain rfl : k = L.length := by omega
        have HQ : Hid (SOnePost a (oneS fs rep L) w (.returned .nilIface) wr) := Lib.hid ⟨_, rfl, by rw [HO.out, HOK.out, oneL_end]; exact ES.none a, HB2.out.trans (HBr.out.mono HB2.out.size)⟩
        go_wp2
        go_ret
        exact HQ.out
end Go.Proofs.YtpanoplcamdnkaaGreatDoor
/- Walk of scrub.Check: are files and bins right? Condition: the sentinels that are read lie as named (SomeS). -/
namespace Go.Proofs.YtpanoplcamdnkaaGreatDoor
open Go.RowKit Go.Lib

theorem fileS_rcp {q : Option Rcp} {r : Rcp} {ls : List Load} (h : fileS q r ls = 0) : (rcpFault r).1 = 0 := by
  by_cases h0 : (rcpFault r).1 = 0
  · exact h0
  · rw [fileS_1 h0] at h; exact absurd h h0
theorem prevR_next {fs : List Rcp} {k : Nat} (hk : k < fs.length) : prevR fs (k + 1) = some fs[k] := by
  unfold prevR
  rw [if_neg (by omega), Nat.add_sub_cancel, List.getElem?_eq_getElem hk]
theorem filesL_drop {ls : List Load} {fs : List Rcp} {k i : Nat} (hk : k < fs.length) : filesL ls (prevR fs k) i (fs.drop k) = if fileS (prevR fs k) fs[k] ls ≠ 0 then (fileS (prevR fs k) fs[k] ls, (i : Int)) else filesL ls (prevR fs (k + 1)) (i + 1) (fs.drop (k + 1)) := by
  rw [List.drop_eq_getElem_cons hk, prevR_next hk]; rfl
theorem filesL_end (ls : List Load) (q : Option Rcp) (i : Nat) (fs : List Rcp) : filesL ls q i (fs.drop fs.length) = (0, -1) := by rw [List.drop_length]; rfl
def prevL (ls : List Load) (k : Nat) : Option Load := if k = 0 then none else ls[k - 1]?
theorem prevL_next {ls : List Load} {k : Nat} (hk : k < ls.length) : prevL ls (k + 1) = some ls[k] := by
  unfold prevL
  rw [if_neg (by omega), Nat.add_sub_cancel, List.getElem?_eq_getElem hk]
theorem loadsL_drop {fs : List Rcp} {ls : List Load} {k i : Nat} (hk : k < ls.length) : loadsL fs (prevL ls k) i (ls.drop k) = if loadS fs (prevL ls k) ls[k] ≠ 0 then (loadS fs (prevL ls k) ls[k], (i : Int)) else loadsL fs (prevL ls (k + 1)) (i + 1) (ls.drop (k + 1)) := by
  rw [List.drop_eq_getElem_cons hk, prevL_next hk]; rfl
theorem loadsL_end (fs : List Rcp) (q : Option Load) (i : Nat) (ls : List Load) : loadsL fs q i (ls.drop ls.length) = (0, -1) := by rw [List.drop_length]; rfl
theorem loadS_first {fs : List Rcp} {b : Load} : loadS fs none b = oneS fs b.rep b.l := by unfold loadS; rw [if_neg (by simp)]
theorem loadS_next {fs : List Rcp} {p b : Load} : loadS fs (some p) b = if lesser p.rep b.rep = true then oneS fs b.rep b.l else 8 := by
  unfold loadS
  by_cases h : lesser p.rep b.rep = true
  · rw [if_pos h, if_neg (by simp [h])]
  · rw [if_neg h, if_pos (by simp [h])]
theorem rcp_small {r : Rcp} (hb : RcpB r) (h : (rcpFault r).1 = 0) : r.ids.length ≤ 250 ∧ ∀ x ∈ r.ids, IdOk0 x := by
  have hi : r.ids.length ≤ 250 ∧ (idsFault r.len 0 0 r.ids).1 = 0 := by
    unfold rcpFault at h
    split at h
    · exact absurd h (by decide)
    · split at h
      · exact absurd h (by decide)
      · split at h
        · exact absurd h (by decide)
        · next h3 => exact ⟨by omega, h⟩
  have hall : ∀ (l : IdL) (i : Nat) (n : Int), (idsFault r.len i n l).1 = 0 → ∀ x ∈ l, 1 ≤ x.2 ∧ x.2 ≤ 64 := by
    intro l
    induction l with
    | nil => intro _ _ _ x hx; cases hx
    | cons y t ih =>
      intro n i h0 x hx
      unfold idsFault at h0
      split at h0
      · exact absurd (show (3 : Int) = 0 from h0) (by decide)
      · next h1 =>
        rcases List.mem_cons.1 hx with rfl | hx
        · omega
        · exact ih _ _ h0 x hx
  refine ⟨hi.1, fun x hx => ?_⟩
  have h1 := hall _ _ _ hi.2 x hx
  have h2 := hb.i x hx
  exact ⟨⟨h2.1, h2.2.1, h2.2.2⟩, by omega⟩
def ScPost (a : Nat → Addr) (F : Int × Int) (w : World) (e : Ending) (w' : World) : Prop := ∃ x, e = .returned x ∧ EV a x F.1 F.2 w' ∧ Below w.heap.size w w'
set_option maxRecDepth 100000 in
set_option maxHeartbeats 8000000 in
theorem ScCheck_any (a : Nat → Addr) (vf vb : Value) (fs : List Rcp) (ls : List Load) (hfl : fs.length ≤ 1000000) (hrb : ∀ r ∈ fs, RcpB r) (hll : ls.length ≤ 1000000) (hlb : ∀ y ∈ ls, y.l.length ≤ 1000000) (hlw : ∀ y ∈ ls, ∀ x ∈ y.l, HldW x ∧ x.text.length ≤ 1000000000) (w : World) (hf : RsRd w w.heap.size vf fs) (hl : LdRd w w.heap.size vb ls) (hs : SomeS [1, 2, 3, 4, 6, 7, 8, 10] a w) :
    Calls Tryz.prog 37 #[vf, vb] w (ScPost a (checkS fs ls) w) := by
  obtain ⟨FA, fc, hvf, _⟩ := id hf
  obtain ⟨A, c, hvl, hcap, hcells⟩ := id hl
  have HF := Lib.hid hf
  have HLD := Lib.hid hl
  have HS := Lib.hid hs
  have HRB := Lib.hid hrb
  have HLB := Lib.hid hlb
  have HLW := Lib.hid hlw
  have HC := Lib.hid hcells
  subst hvf
  subst hvl
  clear hf hl hs hrb hlw hcells
  by_cases h30 : 30 < fs.length
  · have h30i : (fs.length : Int) > 30 := by omega
    have HCK : Hid (checkS fs ls = (7, -1)) := Lib.hid (if_pos h30)
    have s6 : w.cell? ⟨1, 0, none⟩ = some (sval a 6) := HS.out 6 (by simp)
    unfold sval at s6
    have HQ : Hid (ScPost a (checkS fs ls) w (.returned (.iface 361 (.pointer (some (a 6))))) w) := Lib.hid ⟨_, rfl, by rw [HCK.out]; exact EV.sent a _ 6 (by decide), Below.refl _ _⟩
    clear h30
    go_enter Tryz.func37, Tryz.ntmps37
    go_wp2
    go_ret
    exact HQ.out
  · have h30i : ¬ (fs.length : Int) > 30 := by omega
    have HC1 : Hid (checkS fs ls = if (filesL ls none 0 fs).1 ≠ 0 then filesL ls none 0 fs else loadsL fs none 0 ls) := Lib.hid (if_neg h30)
    have hfl30 : fs.length ≤ 30 := by omega
    clear h30
    go_enter Tryz.func37, Tryz.ntmps37
    go_wp2
    go_loopg [16] fs.length (fun gh v16 wr => ∃ k : Nat, v16 = .int .i64 k ∧ k ≤ fs.length ∧ gh = fs.length - k ∧ Hid (filesL ls none 0 fs = filesL ls (prevR fs k) k (fs.drop k)) ∧ Hid (∀ r ∈ fs.take k, (rcpFault r).1 = 0) ∧ Hid (Below w.heap.size w wr))
    case atStart => exact ⟨0, rfl, Nat.zero_le _, rfl, Lib.hid rfl, Lib.hid (fun r hr => by simp at hr), Lib.hid (Below.refl _ _)⟩
    case round =>
      obtain ⟨k, rfl, hk, hgm, HFK, HOK, HBr⟩ := hrel
      by_cases hkl : k < fs.length
      · have b1 : (0 : Int) ≤ (k : Int) := by omega
        have b2 : (k : Int) < (fs.length : Int) := by omega
        have HSF := Lib.hid (ScFile_any a (.slice FA fs.length fc) (.slice A ls.length c) fs ls hfl hll HLB.out k hkl (HRB.out _ (List.getElem_mem hkl)) wr ((HF.out.keep HBr.out (Nat.le_refl _)).more HBr.out.size) ((HLD.out.keep HBr.out (Nat.le_refl _)).more HBr.out.size) ((HS.out.below HBr.out).sub (js := [1, 2, 3, 4, 6, 7, 8]) (by decide)))
        go_wp2_with fail
        refine HSF.out.mono ?_
        rintro e w4 ⟨x, rfl, hes, hb4⟩
        have HB4 := Lib.hid (HBr.out.trans (hb4.mono HBr.out.size))
        clear hb4 HSF
        by_cases hc : fileS (prevR fs k) fs[k] ls = 0
        · obtain ⟨rfl, _⟩ := hes.nil hc
          have HN := Lib.hid (HFK.out.trans ((filesL_drop hkl).trans (if_neg (by rw [hc]; simp))))
          have HOK2 : Hid (∀ r ∈ fs.take (k + 1), (rcpFault r).1 = 0) := Lib.hid (fun r hr => by
            rw [List.take_succ_eq_append_getElem hkl] at hr
            rcases List.mem_append.1 hr with hr | hr
            · exact HOK.out r hr
            · rw [List.mem_singleton.1 hr]; exact fileS_rcp hc)
          clear hc hes
          go_wp2
          go_roundg (fs.length - (k + 1))
          case measure => omega
          case rel => exact ⟨k + 1, by go_num, hkl, rfl, HN, HOK2, HB4⟩
        · have HCK := Lib.hid (HFK.out.trans ((filesL_drop hkl).trans (if_pos hc)))
          have HCK2 : Hid (checkS fs ls = (fileS (prevR fs k) fs[k] ls, (k : Int))) := Lib.hid (by rw [HC1.out, HCK.out, if_pos hc])
          rcases hes with ⟨rfl, h0⟩ | ⟨q, hq, rfl, hcq⟩
          · exact absurd h0 hc
          · have HQ : Hid (ScPost a (checkS fs ls) w (.returned (.iface 134 (.pointer (some ⟨w4.heap.size, 0, none⟩)))) (w4.alloc (.cells #[.int .i64 (k : Int), .iface 361 (.pointer (some (a q)))] 136))) := Lib.hid ⟨_, rfl, by rw [HCK2.out]; simp only; rw [hcq]; exact EV_mk a w4 q hq _ _, HB4.out.alloc HB4.out.size _⟩
            unfold sval
            clear hc hcq
            go_wp2
            go_ret
            exact HQ.out
      · obtain rfl : k = fs.length := by omega
        obtain ⟨wo, hwo⟩ : ∃ x, x = wr := ⟨_, rfl⟩
        subst hwo
        have HCK : Hid (checkS fs ls = loadsL fs none 0 ls) := Lib.hid (by
          have h := HFK.out
          rw [filesL_end] at h
          rw [HC1.out, h, if_neg (by simp)])
        have HOKS : Hid (∀ r ∈ fs, r.ids.length ≤ 250 ∧ ∀ x ∈ r.ids, IdOk0 x) := Lib.hid (fun r hr => rcp_small (HRB.out r hr) (HOK.out r (by rw [List.take_length]; exact hr)))
        have HB0 := HBr
        clear HFK HOK HC1 hk hgm
        go_wp2
        go_loopg [33] ls.length (fun gh v33 wr => ∃ k : Nat, v33 = .int .i64 k ∧ k ≤ ls.length ∧ gh = ls.length - k ∧ Hid (loadsL fs none 0 ls = loadsL fs (prevL ls k) k (ls.drop k)) ∧ Hid (Below wo.heap.size wo wr))
        case atStart => exact ⟨0, rfl, Nat.zero_le _, rfl, Lib.hid rfl, Lib.hid (Below.refl _ _)⟩
        case round =>
          obtain ⟨k, rfl, hk, hgm, HLK, HBq⟩ := hrel
          by_cases hkl : k < ls.length
          · obtain ⟨g, o, rfl, hg, hx⟩ := HC.out (by omega)
            obtain ⟨sl, hsl, x0, x1, x2⟩ := hx k hkl
            obtain ⟨SA, sc, hsv, _⟩ := hsl.form
            subst hsv
            have HBw := Lib.hid (HB0.out.trans (HBq.out.mono HB0.out.size))
            have y0 := (HBw.out.cell (p := ⟨g, o + k * 3, none⟩) hg).trans x0
            have y1 := (HBw.out.cell (p := ⟨g, o + k * 3 + 1, none⟩) hg).trans x1
            have y2 := (HBw.out.cell (p := ⟨g, o + k * 3 + 2, none⟩) hg).trans x2
            have hyl := HLB.out ls[k] (List.getElem_mem hkl)
            have hyw := HLW.out ls[k] (List.getElem_mem hkl)
            have b1 : (0 : Int) ≤ (k : Int) := by omega
            have b2 : (k : Int) < (ls.length : Int) := by omega
            obtain ⟨y, hy⟩ : ∃ y, ls[k] = y := ⟨_, rfl⟩
            rw [hy] at hsl x0 x1 x2 y0 y1 y2 hyl hyw
            have HY := Lib.hid hy
            have hb4 : Below wr.heap.size wr (wr.alloc (.cells #[.int .u32 (y.rep.1 : Int), .int .i64 y.rep.2, .slice SA y.l.length sc] 72)) := (Below.refl _ _).alloc (Nat.le_refl _) _
            have HB4 := Lib.hid (HBw.out.trans (hb4.mono HBw.out.size))
            have BX4 := Lib.hid (Box3.mk' wr (.int .u32 (y.rep.1 : Int)) (.int .i64 y.rep.2) (.slice SA y.l.length sc) 72)
            have HOC := Lib.hid (ScOne_any a (.slice FA fs.length fc) (.slice SA y.l.length sc) fs hfl30 HOKS.out y.rep y.l hyl hyw (wr.alloc (.cells #[.int .u32 (y.rep.1 : Int), .int .i64 y.rep.2, .slice SA y.l.length sc] 72)) ((HF.out.keep HB4.out (Nat.le_refl _)).more HB4.out.size) ((hsl.keep HB4.out (Nat.le_refl _)).more HB4.out.size) ((HS.out.below HB4.out).sub (js := [2, 7, 8, 10]) (by decide)))
            have hb4q := HBq.out.trans (hb4.mono HBq.out.size)
            have HB4Q := Lib.hid hb4q
            clear x0 x1 x2 hb4 hsl hyl hyw hy hb4q
            obtain ⟨z0, z1, z2⟩ := BX4.out
            go_wp2_with fail
            generalize wr.alloc (.cells #[.int .u32 (y.rep.1 : Int), .int .i64 y.rep.2, .slice SA y.l.length sc] 72) = w4 at *
            refine HOC.out.mono ?_
            rintro e w5 ⟨x, rfl, hes, hb5⟩
            have HB5 := Lib.hid (HB4Q.out.trans (hb5.mono HB4Q.out.size))
            have HB9 := Lib.hid (HB4.out.trans (hb5.mono HB4.out.size))
            have BX5 := Lib.hid (BX4.out.below hb5 BX4.out.lt)
            clear hb5 HOC z0 z1 z2 y0 y1 y2
            by_cases hk0 : k = 0
            · have hpl : prevL ls k = none := if_pos hk0
              have HL0 := Lib.hid (fun (hc : oneS fs y.rep y.l = 0) => HLK.out.trans ((loadsL_drop hkl).trans (if_neg (by rw [hpl, HY.out, loadS_first, hc]; simp))))
              have HLc := Lib.hid (fun (hc : oneS fs y.rep y.l ≠ 0) => HCK.out.trans (HLK.out.trans ((loadsL_drop hkl).trans ((if_pos (by rw [hpl, HY.out, loadS_first]; exact hc)).trans (by rw [hpl, HY.out, loadS_first])))))
              have b7 : ¬ ((k : Int) > 0) := by omega
              have HK0 := Lib.hid hk0
              clear hk0 hpl
              go_wp2
              have hT0 : Below w5.heap.size w5 w5.drew := (Below.refl _ _).drew
              refine region_S (fun w' => Below w5.heap.size w5 w') 13 (by kernel_rfl) (by kernel_rfl) ?_
              refine take_S 0 rfl (by kernel_rfl) (by kernel_rfl) hT0 (fun w' hS => by go_simp; rfl) ?_
              refine take_S 1 (v := .bool false) rfl (by kernel_rfl) (by kernel_rfl) hT0 (fun w' hS => by have W3 := HK0.out; go_simp) ?_
              refine take_S 2 rfl (by kernel_rfl) (by kernel_rfl) hT0 (fun w' hS => by go_simp; rfl) ?_
              refine skip_S 3 rfl (by kernel_rfl) (by kernel_rfl) hT0 ?_
              refine skip_S 4 rfl (by kernel_rfl) (by kernel_rfl) hT0 ?_
              refine skip_S 5 rfl (by kernel_rfl) (by kernel_rfl) hT0 ?_
              refine skip_S 6 rfl (by kernel_rfl) (by kernel_rfl) hT0 ?_
              refine skip_S 7 rfl (by kernel_rfl) (by kernel_rfl) hT0 ?_
              refine skip_S 8 rfl (by kernel_rfl) (by kernel_rfl) hT0 ?_
              refine skip_S 9 rfl (by kernel_rfl) (by kernel_rfl) hT0 ?_
              refine skip_S 10 rfl (by kernel_rfl) (by kernel_rfl) hT0 ?_
              refine skip_S 11 rfl (by kernel_rfl) (by kernel_rfl) hT0 ?_
              refine skip_S 12 rfl (by kernel_rfl) (by kernel_rfl) hT0 (forced_S (by kernel_rfl) ?_)
              try simp only [Act.put, List.getElem_toArray, List.getElem_cons_succ, List.getElem_cons_zero, List.setIfInBounds_toArray, List.set_cons_zero, List.set_cons_succ]
              simp only [List.drop_succ_cons, List.drop_zero]
              have HB7 := Lib.hid (HB5.out.trans (hT0.mono HB5.out.size))
              have HB8 := Lib.hid (HB0.out.trans (HB7.out.mono HB0.out.size))
              clear hT0
              by_cases hc : oneS fs y.rep y.l = 0
              · obtain ⟨rfl, _⟩ := hes.nil hc
                have HN2 := Lib.hid (HL0.out hc)
                clear hes hc
                go_wp2
                go_roundg (ls.length - (k + 1))
                case measure => omega
                case rel => exact ⟨k + 1, by go_num, hkl, rfl, HN2, HB7⟩
              · have HF := Lib.hid (HLc.out hc)
                rcases hes with ⟨rfl, h0⟩ | ⟨q, hq, rfl, hcq⟩
                · exact absurd h0 hc
                · have HQ : Hid (ScPost a (checkS fs ls) w (.returned (.iface 134 (.pointer (some ⟨w5.drew.heap.size, 0, none⟩)))) (w5.drew.alloc (.cells #[.int .i64 (k : Int), .iface 361 (.pointer (some (a q)))] 136))) := Lib.hid ⟨_, rfl, by rw [HF.out]; simp only; rw [hcq]; exact EV_mk a w5.drew q hq _ _, HB8.out.alloc HB8.out.size _⟩
                  unfold sval
                  clear hc hcq
                  go_wp2
                  go_ret
                  exact HQ.out
            · obtain ⟨j, rfl⟩ : ∃ j, k = j + 1 := ⟨k - 1, by omega⟩
              obtain ⟨_, _, d0, d1, _⟩ := hx j (by omega)
              have hg5 : g < w5.heap.size := Nat.lt_of_lt_of_le hg HB9.out.size
              have D0 := Lib.hid ((HB9.out.cell (p := ⟨g, o + j * 3, none⟩) hg).trans d0)
              have D1 := Lib.hid ((HB9.out.cell (p := ⟨g, o + j * 3 + 1, none⟩) hg).trans d1)
              have hpl : prevL ls (j + 1) = some ls[j] := prevL_next (by omega)
              generalize hlj : ls[j] = p at *
              have b3 : (j : Int) + 1 > 0 := by omega
              have HWR : Hid (IntKind.i64.wrap (j : Int) = (j : Int)) := Lib.hid (IntWalk.i64_in _ (by omega))
              have b4 : (j : Int) < (ls.length : Int) := by omega
              have b5 : j < ls.length := by omega
              clear d0 d1 hk0 hlj hx
              cases hlt : lesser p.rep y.rep with
              | true =>
                have HLT : Hid (lessId p.rep.1 y.rep.1 p.rep.2 y.rep.2 = true) := Lib.hid hlt
                have HL0 := Lib.hid (fun (hc : oneS fs y.rep y.l = 0) => HLK.out.trans ((loadsL_drop hkl).trans (if_neg (by rw [hpl, HY.out, loadS_next, if_pos hlt, hc]; simp))))
                have HLc := Lib.hid (fun (hc : oneS fs y.rep y.l ≠ 0) => HCK.out.trans (HLK.out.trans ((loadsL_drop hkl).trans ((if_pos (by rw [hpl, HY.out, loadS_next, if_pos hlt]; exact hc)).trans (by rw [hpl, HY.out, loadS_next, if_pos hlt])))))
                clear hlt hpl
                go_wp2
                have hT0 : Below w5.heap.size w5 w5.drew := (Below.refl _ _).drew
                refine region_S (fun w' => Below w5.heap.size w5 w') 13 (by kernel_rfl) (by kernel_rfl) ?_
                refine take_S 0 rfl (by kernel_rfl) (by kernel_rfl) hT0 (fun w' hS => by go_simp; rfl) ?_
                refine take_S 1 rfl (by kernel_rfl) (by kernel_rfl) hT0 (fun w' hS => by go_simp; rfl) ?_
                refine take_S 2 rfl (by kernel_rfl) (by kernel_rfl) hT0 (fun w' hS => by go_simp; rfl) ?_
                refine take_S 3 rfl (by kernel_rfl) (by kernel_rfl) hT0 (fun w' hS => by go_simp; rfl) ?_
                refine take_S 4 rfl (by kernel_rfl) (by kernel_rfl) hT0 (fun w' hS => by go_simp; rfl) ?_
                refine take_S 5 (v := .int .i64 (j : Int)) rfl (by kernel_rfl) (by kernel_rfl) hT0 (fun w' hS => by have W1 := b3; have W2 := HWR.out; go_simp) ?_
                refine take_S 6 rfl (by kernel_rfl) (by kernel_rfl) hT0 (fun w' hS => by go_simp; rfl) ?_
                refine take_S 7 rfl (by kernel_rfl) (by kernel_rfl) hT0 (fun w' hS => by go_simp; rfl) ?_
                refine take_S 8 rfl (by kernel_rfl) (by kernel_rfl) hT0 (fun w' hS => by have A0 := (hS.cell (p := ⟨g, o + j * 3, none⟩) hg5).trans D0.out; have A1 := (hS.cell (p := ⟨g, o + j * 3 + 1, none⟩) hg5).trans D1.out; go_simp; rfl) ?_
                refine take_S 9 rfl (by kernel_rfl) (by kernel_rfl) hT0 (fun w' hS => by go_simp; rfl) ?_
                refine take_S 10 rfl (by kernel_rfl) (by kernel_rfl) hT0 (fun w' hS => by obtain ⟨A0, A1, A2⟩ := BX5.out.below hS BX5.out.lt; go_simp; rfl) ?_
                refine carry_S 11 rfl (by kernel_rfl) (by decide) (by kernel_rfl) (fun K hK => ?_)
                go_simp
                refine (PLess_any p.rep.1 y.rep.1 p.rep.2 y.rep.2 _).mono ?_
                rintro e w6 ⟨rfl, hbw6⟩
                have hT1 : Below w5.heap.size w5 w6 := hT0.trans (hbw6.mono hT0.size)
                refine hK _ _ hT1 ?_
                clear hK K
                try simp only [Act.put, List.getElem_toArray, List.getElem_cons_succ, List.getElem_cons_zero, List.setIfInBounds_toArray, List.set_cons_zero, List.set_cons_succ]
                rw [HLT.out]
                refine take_S 12 rfl (by kernel_rfl) (by kernel_rfl) hT1 (fun w' hS => by go_simp; rfl) (forced_S (by kernel_rfl) ?_)
                try simp only [Act.put, List.getElem_toArray, List.getElem_cons_succ, List.getElem_cons_zero, List.setIfInBounds_toArray, List.set_cons_zero, List.set_cons_succ]
                simp only [List.drop_succ_cons, List.drop_zero]
                have HB7 := Lib.hid (HB5.out.trans (hT1.mono HB5.out.size))
                have HB8 := Lib.hid (HB0.out.trans (HB7.out.mono HB0.out.size))
                clear hT0 hT1 hbw6
                by_cases hc : oneS fs y.rep y.l = 0
                · obtain ⟨rfl, _⟩ := hes.nil hc
                  have HN2 := Lib.hid (HL0.out hc)
                  clear hes hc
                  go_wp2
                  go_roundg (ls.length - (j + 1 + 1))
                  case measure => omega
                  case rel => exact ⟨j + 1 + 1, by go_num, hkl, rfl, HN2, HB7⟩
                · have HF := Lib.hid (HLc.out hc)
                  rcases hes with ⟨rfl, h0⟩ | ⟨q, hq, rfl, hcq⟩
                  · exact absurd h0 hc
                  · have HQ : Hid (ScPost a (checkS fs ls) w (.returned (.iface 134 (.pointer (some ⟨w6.heap.size, 0, none⟩)))) (w6.alloc (.cells #[.int .i64 ((j : Int) + 1), .iface 361 (.pointer (some (a q)))] 136))) := Lib.hid ⟨_, rfl, by rw [HF.out]; simp only; rw [hcq]; exact EV_mk a w6 q hq _ _, HB8.out.alloc HB8.out.size _⟩
                    unfold sval
                    clear hc hcq
                    go_wp2
                    go_ret
                    exact HQ.out
              | false =>
                have HLT : Hid (lessId p.rep.1 y.rep.1 p.rep.2 y.rep.2 = false) := Lib.hid hlt
                have HF := Lib.hid (HCK.out.trans (HLK.out.trans ((loadsL_drop hkl).trans ((if_pos (by rw [hpl, HY.out, loadS_next, if_neg (by rw [hlt]; simp)]; simp)).trans (by rw [hpl, HY.out, loadS_next, if_neg (by rw [hlt]; simp)])))))
                clear hlt hpl hes
                go_wp2
                have hT0 : Below w5.heap.size w5 w5.drew := (Below.refl _ _).drew
                refine region_S (fun w' => Below w5.heap.size w5 w') 13 (by kernel_rfl) (by kernel_rfl) ?_
                refine take_S 0 rfl (by kernel_rfl) (by kernel_rfl) hT0 (fun w' hS => by go_simp; rfl) ?_
                refine take_S 1 rfl (by kernel_rfl) (by kernel_rfl) hT0 (fun w' hS => by go_simp; rfl) ?_
                refine take_S 2 rfl (by kernel_rfl) (by kernel_rfl) hT0 (fun w' hS => by go_simp; rfl) ?_
                refine take_S 3 rfl (by kernel_rfl) (by kernel_rfl) hT0 (fun w' hS => by go_simp; rfl) ?_
                refine take_S 4 rfl (by kernel_rfl) (by kernel_rfl) hT0 (fun w' hS => by go_simp; rfl) ?_
                refine take_S 5 (v := .int .i64 (j : Int)) rfl (by kernel_rfl) (by kernel_rfl) hT0 (fun w' hS => by have W1 := b3; have W2 := HWR.out; go_simp) ?_
                refine take_S 6 rfl (by kernel_rfl) (by kernel_rfl) hT0 (fun w' hS => by go_simp; rfl) ?_
                refine take_S 7 rfl (by kernel_rfl) (by kernel_rfl) hT0 (fun w' hS => by go_simp; rfl) ?_
                refine take_S 8 rfl (by kernel_rfl) (by kernel_rfl) hT0 (fun w' hS => by have A0 := (hS.cell (p := ⟨g, o + j * 3, none⟩) hg5).trans D0.out; have A1 := (hS.cell (p := ⟨g, o + j * 3 + 1, none⟩) hg5).trans D1.out; go_simp; rfl) ?_
                refine take_S 9 rfl (by kernel_rfl) (by kernel_rfl) hT0 (fun w' hS => by go_simp; rfl) ?_
                refine take_S 10 rfl (by kernel_rfl) (by kernel_rfl) hT0 (fun w' hS => by obtain ⟨A0, A1, A2⟩ := BX5.out.below hS BX5.out.lt; go_simp; rfl) ?_
                refine carry_S 11 rfl (by kernel_rfl) (by decide) (by kernel_rfl) (fun K hK => ?_)
                go_simp
                refine (PLess_any p.rep.1 y.rep.1 p.rep.2 y.rep.2 _).mono ?_
                rintro e w6 ⟨rfl, hbw6⟩
                have hT1 : Below w5.heap.size w5 w6 := hT0.trans (hbw6.mono hT0.size)
                refine hK _ _ hT1 ?_
                clear hK K
                try simp only [Act.put, List.getElem_toArray, List.getElem_cons_succ, List.getElem_cons_zero, List.setIfInBounds_toArray, List.set_cons_zero, List.set_cons_succ]
                rw [HLT.out]
                refine take_S 12 rfl (by kernel_rfl) (by kernel_rfl) hT1 (fun w' hS => by go_simp; rfl) (forced_S (by kernel_rfl) ?_)
                try simp only [Act.put, List.getElem_toArray, List.getElem_cons_succ, List.getElem_cons_zero, List.setIfInBounds_toArray, List.set_cons_zero, List.set_cons_succ]
                simp only [List.drop_succ_cons, List.drop_zero]
                have HB7 := Lib.hid (HB5.out.trans (hT1.mono HB5.out.size))
                have HB8 := Lib.hid (HB0.out.trans (HB7.out.mono HB0.out.size))
                clear hT0 hT1 hbw6
                have s7 : w6.cell? ⟨7, 0, none⟩ = some (sval a 7) := (HS.out.below HB8.out) 7 (by simp)
                unfold sval at s7
                have HQ : Hid (ScPost a (checkS fs ls) w (.returned (.iface 134 (.pointer (some ⟨w6.heap.size, 0, none⟩)))) (w6.alloc (.cells #[.int .i64 ((j : Int) + 1), .iface 361 (.pointer (some (a 7)))] 136))) := Lib.hid ⟨_, rfl, by rw [HF.out]; exact EV_mk a w6 7 (by decide) _ _, HB8.out.alloc HB8.out.size _⟩
                go_wp2
                go_ret
                exact HQ.out
          · obtain rfl : k = ls.length := by omega
            have HQ : Hid (ScPost a (checkS fs ls) w (.returned .nilIface) wr) := Lib.hid ⟨_, rfl, by rw [HCK.out, HLK.out, loadsL_end]; exact EV.none a _, HB0.out.trans (HBq.out.mono HB0.out.size)⟩
            go_wp2
            go_ret
            exact HQ.out
end Go.Proofs.YtpanoplcamdnkaaGreatDoor

/- Post, OpenS, OpenI, OpenN in one text. Conditions: as each part says. -/
import Derived.Below
import Derived.Deep.Draws
import Derived.ProofKit
import Derived.OpenShut
import Derived.Deep.Slices
import Derived.Deep.Fields
import Derived.ChangeSame
import Derived.WideKeyArgs
import Derived.Test.YtpanoplcamdnkaaGreatDoorRead
import Derived.Lib.SmallJoins
import Derived.Lib.LaidTab
import Derived.ChangeSlices
import Derived.Test.YtpanoplcamdnkaaGreatDoorChecked
import Derived.Test.YtpanoplcamdnkaaGreatDoorPlainA
import Derived.ChangeArms
import Derived.Deep.LoopGhost
/- The row's last step where the call may have laid frozen memory: what lay below the first world's heap is as it was. No program in sight; no conditions. -/
namespace Go.Proofs.YtpanoplcamdnkaaGreatDoor
open Go.RowKit Go.WideShapes Go.ChangeShapes
section
variable {H : Type} {enc : TypeId × Value → H} {P : Program}
theorem post_below {f : Func} {s : ChangeSpec} {apart fresh handsOn again : Bool} {W W' : World} {args : Array Value} {v : Value} {ds gs : List (DataW H)} {before pa pv : List MemPlace}
    (hW : DataW.Whole enc P f.params.toList s.vars apart W args.toList ds gs before)
    (hres : ∀ (b : Nat) (sp : Nat → Bool) (hd : Bool), DataW.TrodAll enc P W' b sp hd f.resultTypes.toList (v.resultList f.resultTypes.size) (s.fn H (ds ++ gs)).results [])
    (hargs : ∀ sp : Nat → Bool, (∀ p ∈ before, sp p.block = true) → DataW.TrodAll enc P W' 0 sp true f.params.toList args.toList (s.fn H (ds ++ gs)).args pa)
    (hvars : ∀ sp : Nat → Bool, (∀ p ∈ before, sp p.block = true) → DataW.TrodVars enc P W' sp s.vars (s.fn H (ds ++ gs)).vars pv)
    (hps : before = pa ++ pv) (hb : Below W.heap.size W W')
    (hok : ∀ (j : Nat) (t : TypeId) (r : Value), f.resultTypes[j]? = some t → (v.resultList f.resultTypes.size)[j]? = some r → Value.okWide P W' .any 0 t r) :
    s.post enc P f apart fresh handsOn again W args v W' := by
  have hlt : ∀ p ∈ before, p.block < W.heap.size := fun p hp => hW.lt p hp
  have hold : ∀ p ∈ before, (fun b => decide (b < W.heap.size)) p.block = true := fun p hp => by simpa using hlt p hp
  refine ⟨ds, gs, before, [], pa, pv, hW, hres _ _ _, hargs _ hold, hvars _ hold, World.keptBut_mono (fun p hp => ⟨hp, ?_⟩) (hb.frame (· ∈ before)), fun _ => ?_⟩
  · rw [hps, List.mem_append] at hp
    exact Or.inr hp
  · obtain ⟨_, _, _, _, _, hz, hn⟩ := hW
    refine ⟨hok, _, _, ([] ++ pa) ++ pv, ⟨[] ++ pa, pv, trodAll_append (hargs _ (fun _ _ => rfl)) (hres _ _ _), hvars _ (fun _ _ => rfl), rfl, ?_, ?_⟩, ?_⟩
    · intro b off hp
      have hin : MemPlace.cell b off ∈ before := by rw [hps]; simpa using hp
      rw [hb.frozen (hlt _ hin)]
      exact hz b off hin
    · intro ha
      have := hn ha
      rw [hps] at this
      simpa using this
    · intro p hp _
      rw [hps]
      simpa using hp
end
end Go.Proofs.YtpanoplcamdnkaaGreatDoor
/- Arguments that are slices of structs are opened cell by cell; an argument reads behind the call as it did (its first theorem stands in the guide's page on structs, to be copied). No program in sight; no conditions. -/
namespace Go.Proofs.YtpanoplcamdnkaaGreatDoor
open Go.RowKit Go.ChangeShapes Go.WideShapes Go.Deep
section
variable {H : Type} {enc : TypeId × Value → H} {P : Program} {w : World} {base : Nat} {spare : Nat → Bool} {held : Bool}
end
section
variable {H : Type} {enc : TypeId × Value → H} {P : Program} {w : World} {base : Nat} {spare : Nat → Bool} {held : Bool}
theorem spot_none {a : Addr} {u : Value} (h0 : w.cell? a = some u) : a.spot = none := by
  unfold World.cell? at h0
  split at h0
  · cases hs : a.spot with
    | none => rfl
    | some x => rw [hs] at h0; simp at h0
  · cases h0
/-- arguments read as they did -/
theorem trodAll_stays (hl : laidOutB P = true) {W W' : World} {sp : Nat → Bool} : ∀ (ts : List TypeId) (vs : List Value) (ds : List (DataW H)) (ps : List MemPlace),
    (ts.all fun t => P.readableRec t && decide (t < P.types.size)) = true → DataW.TrodAll enc P W 0 (fun _ => true) true ts vs ds ps → (∀ p ∈ ps, W.sameAt W' p) → (∀ p ∈ ps, sp p.block = true) → DataW.TrodAll enc P W' 0 sp true ts vs ds ps
  | [], vs, ds, ps, _, h, _, _ => by
    obtain ⟨rfl, rfl, rfl⟩ := trodAll_nil h
    exact trodAll_mk0
  | t :: ts, vs, ds, ps, hr, h, hsame, hs => by
    obtain ⟨v, vs', d, ds', p, q, rfl, rfl, rfl, h0, h1⟩ := trodAll_cons h
    rw [List.all_cons, Bool.and_eq_true, Bool.and_eq_true, decide_eq_true_eq] at hr
    exact trodAll_cons_mk (WideElems.Trod_stays hl hr.1.1 hr.1.2 h0 (fun x hx => hsame x (List.mem_append_left _ hx)) (fun x hx => hs x (List.mem_append_left _ hx)))
      (trodAll_stays hl ts vs' ds' q hr.2 h1 (fun x hx => hsame x (List.mem_append_right _ hx)) (fun x hx => hs x (List.mem_append_right _ hx)))
/-- the row's last step where the specification hands the arguments back as they were -/
theorem post_kept {f : Func} {s : ChangeSpec} {apart fresh handsOn again : Bool} {W W' : World} {args : Array Value} {v : Value} {ds gs : List (DataW H)} {before : List MemPlace}
    (hl : laidOutB P = true) (hpar : (f.params.toList.all fun t => P.readableRec t && decide (t < P.types.size)) = true)
    (hW : DataW.Whole enc P f.params.toList s.vars apart W args.toList ds gs before) (hv0 : s.vars = [])
    (hres : ∀ (b : Nat) (sp : Nat → Bool) (hd : Bool), DataW.TrodAll enc P W' b sp hd f.resultTypes.toList (v.resultList f.resultTypes.size) (s.fn H (ds ++ gs)).results [])
    (hargs : (s.fn H (ds ++ gs)).args = ds) (hvars : (s.fn H (ds ++ gs)).vars = []) (hb : Below W.heap.size W W')
    (hok : ∀ (j : Nat) (t : TypeId) (r : Value), f.resultTypes[j]? = some t → (v.resultList f.resultTypes.size)[j]? = some r → Value.okWide P W' .any 0 t r) :
    s.post enc P f apart fresh handsOn again W args v W' := by
  have hlt : ∀ p ∈ before, p.block < W.heap.size := fun p hp => hW.lt p hp
  have hW2 := hW
  obtain ⟨p, q, hA, hV, rfl, _, _⟩ := hW2
  rw [hv0] at hV
  obtain ⟨rfl, rfl⟩ := trodVars_none hV
  have hW3 := hW
  simp only [List.append_nil] at hW3 hlt
  refine post_below (pa := p) (pv := []) hW3 hres (fun sp hsp => ?_) (fun sp _ => ?_) (by simp) hb hok
  · rw [hargs]
    exact trodAll_stays hl _ _ _ _ hpar hA (fun x hx => hb.same (hlt x hx)) hsp
  · rw [hv0, hvars]
    rfl
end
end Go.Proofs.YtpanoplcamdnkaaGreatDoor
/- Arguments that are a slice of numbers, or an ID, are opened. No conditions. -/
namespace Go.Proofs.YtpanoplcamdnkaaGreatDoor
open Go.RowKit Go.ChangeShapes Go.WideShapes Go.Deep

theorem i64_bounds {z : Int} (h : (Lit.int .i64 z).wf = true) : -9223372036854775808 ≤ z ∧ z ≤ 9223372036854775807 := by
  simp [Lit.wf, IntKind.min, IntKind.max, IntKind.bits, IntKind.signed] at h
  omega
theorem u32_bounds {z : Int} (h : (Lit.int .u32 z).wf = true) : 0 ≤ z ∧ z < 4294967296 := by
  simp [Lit.wf, IntKind.min, IntKind.max, IntKind.bits, IntKind.signed] at h
  omega
theorem id_one : ∃ f0 f1, Tryz.prog.underlying 47 = some (.struct #[f0, f1]) ∧ oneCellFields Tryz.prog #[f0, f1] = true ∧ f0.type = 45 ∧ f1.type = 3 := ⟨_, _, Tryz.underlying47, by kernel_rfl, by kernel_rfl, by kernel_rfl⟩
theorem id_cells : Tryz.prog.cellsOf 47 = 2 := by kernel_rfl
set_option maxRecDepth 100000 in
theorem open_id {H : Type} {enc : TypeId × Value → H} {W : World} {base b0 : Nat} {spare : Nat → Bool} {held : Bool} {r : Reach} {v : Value} {d : DataW H} {ps : List MemPlace}
    (hv : Value.okWide Tryz.prog W r b0 47 v) (h : DataW.Trod enc Tryz.prog W base spare held 47 v d ps) :
    ∃ (p : Nat) (l : Int), v = .agg #[.int .u32 (p : Int), .int .i64 l] ∧ p < 4294967296 ∧ -9223372036854775808 ≤ l ∧ l ≤ 9223372036854775807 := by
  obtain ⟨f0, f1, hu, hone, t0, t1⟩ := id_one
  obtain ⟨v0, v1, y0, y1, n, rfl, _, _, h0, h1⟩ := Go.Joins.open_agg2 hu hone id_cells hv h
  rw [t0] at h0; rw [t1] at h1
  obtain ⟨z0, q0, _, w0⟩ := DataW.trod_int Tryz.underlying45 h0
  obtain ⟨z1, q1, _, w1⟩ := DataW.trod_int Tryz.underlying3 h1
  simp only [List.cons.injEq, and_true] at q0 q1
  subst q0; subst q1
  have b0 := u32_bounds w0
  have b1 := i64_bounds w1
  refine ⟨z0.toNat, z1, ?_, by omega, b1.1, b1.2⟩
  rw [show ((z0.toNat : Nat) : Int) = z0 by omega]
end Go.Proofs.YtpanoplcamdnkaaGreatDoor
/- An argument that is a slice of acts on a node is opened. No conditions. -/
namespace Go.Proofs.YtpanoplcamdnkaaGreatDoor
open Go.RowKit Go.ChangeShapes Go.WideShapes Go.Deep

structure ActN where
  kind : Bytes
  nm : Bytes
  s : Bytes
def ActNRd (w : World) (B : Nat) (v : Value) (l : List ActN) : Prop :=
  ∃ A c, v = .slice A l.length c ∧ l.length ≤ c ∧ (0 < l.length → ∃ g o, A = some ⟨g, o, none⟩ ∧ g < B ∧ ∀ k (hk : k < l.length),
    w.cell? ⟨g, o + k * 3, none⟩ = some (.string (bs l[k].kind)) ∧ w.cell? ⟨g, o + k * 3 + 1, none⟩ = some (.string (bs l[k].nm)) ∧ w.cell? ⟨g, o + k * 3 + 2, none⟩ = some (.string (bs l[k].s)))
theorem ActNRd.below {w w' : World} {B : Nat} {v : Value} {l : List ActN} (h : ActNRd w B v l) (hb : Below B w w') : ActNRd w' B v l := by
  obtain ⟨A, c, hv, hc, hx⟩ := h
  refine ⟨A, c, hv, hc, fun h0 => ?_⟩
  obtain ⟨g, o, hA, hg, hcell⟩ := hx h0
  exact ⟨g, o, hA, hg, fun k hk => by
    obtain ⟨c0, c1, c2⟩ := hcell k hk
    exact ⟨(hb.cell (p := ⟨g, o + k * 3, none⟩) hg).trans c0, (hb.cell (p := ⟨g, o + k * 3 + 1, none⟩) hg).trans c1, (hb.cell (p := ⟨g, o + k * 3 + 2, none⟩) hg).trans c2⟩⟩
theorem actN_one : ∃ f0 f1 f2, Tryz.prog.underlying 29 = some (.struct #[f0, f1, f2]) ∧ f0.type = 9 ∧ f1.type = 9 ∧ f2.type = 9 ∧ f0.offset = 0 ∧ f1.offset = 1 ∧ f2.offset = 2 := ⟨_, _, _, Tryz.underlying29, by kernel_rfl, by kernel_rfl, by kernel_rfl, by kernel_rfl, by kernel_rfl, by kernel_rfl⟩
theorem actN_cells : Tryz.prog.cellsOf 29 = 3 ∧ Tryz.prog.cellsOf 9 = 1 := ⟨by kernel_rfl, by kernel_rfl⟩
set_option maxRecDepth 100000 in
theorem open_actNs {H : Type} {enc : TypeId × Value → H} {W : World} {base b0 : Nat} {spare : Nat → Bool} {held : Bool} {r : Reach} {v : Value} {d : DataW H} {ps : List MemPlace}
    (hv : Value.okWide Tryz.prog W r b0 22 v) (h : DataW.Trod enc Tryz.prog W base spare held 22 v d ps) :
    ∃ l : List ActN, ActNRd W W.heap.size v l ∧ (∀ x ∈ l, x.kind.length ≤ maxLen ∧ x.nm.length ≤ maxLen ∧ x.s.length ≤ maxLen) ∧ l.length ≤ maxLen := by
  obtain ⟨f0, f1, f2, hu, t0, t1, t2, o0, o1, o2⟩ := actN_one
  obtain ⟨k4, k1⟩ := actN_cells
  obtain ⟨A, len, cap, rfl⟩ := okWide_slice Tryz.underlying22 hv
  obtain ⟨fuel, hf⟩ := h
  have hf' : DataW.trod enc Tryz.prog W base spare held fuel 22 [.slice A len cap] = some (d, ps) := by simpa [Value.cells] using hf
  rcases open_slice Tryz.underlying22 hf' with ⟨h1, _⟩ | ⟨a, len', cap', m, n, D, Pl, h1, _, hl, hm, hmm, _, hi⟩
  · simp only [List.cons.injEq, Value.slice.injEq, and_true] at h1
    obtain ⟨rfl, rfl, rfl⟩ := h1
    exact ⟨[], ⟨none, 0, rfl, Nat.le_refl _, fun h => absurd h (Nat.lt_irrefl 0)⟩, fun o h => absurd h List.not_mem_nil, Nat.zero_le maxLen⟩
  · simp only [List.cons.injEq, Value.slice.injEq, and_true] at h1
    obtain ⟨rfl, rfl, rfl⟩ := h1
    have hlm : len ≤ m := by rw [hmm]; split <;> omega
    rcases Nat.eq_zero_or_pos len with h0 | h0
    · subst h0
      exact ⟨[], ⟨some a, cap, rfl, hl, fun h => absurd h (Nat.lt_irrefl 0)⟩, fun o h => absurd h List.not_mem_nil, Nat.zero_le maxLen⟩
    · have each : ∀ i, i < len → ∃ q : Bytes × Bytes × Bytes, W.cell? (a.add (i * 3 + 0)) = some (.string (bs q.1)) ∧ W.cell? (a.add (i * 3 + 1)) = some (.string (bs q.2.1)) ∧ W.cell? (a.add (i * 3 + 2)) = some (.string (bs q.2.2)) ∧
          q.1.length ≤ maxLen ∧ q.2.1.length ≤ maxLen ∧ q.2.2.length ≤ maxLen := fun i hi' => by
        obtain ⟨cs, hc, ht⟩ := hi i (by omega)
        rw [k4] at hc
        obtain ⟨_, hcl, hat⟩ := World.cells?_some hc
        obtain ⟨x0, x1, x2, rfl⟩ : ∃ a b c, cs = [a, b, c] := by
          match cs, hcl with
          | [a, b, c], _ => exact ⟨a, b, c, rfl⟩
        obtain ⟨ys, n', _, _, _, _, hf⟩ := DataW.trod_struct hu ht
        have g0 := hf 0 f0 rfl
        have g1 := hf 1 f1 rfl
        have g2 := hf 2 f2 rfl
        rw [o0, t0, k1] at g0
        rw [o1, t1, k1] at g1
        rw [o2, t2, k1] at g2
        have hys : ys.length = 3 := by assumption
        obtain ⟨y0, y1, y2, rfl⟩ : ∃ a b c, ys = [a, b, c] := by
          match ys, hys with
          | [a, b, c], _ => exact ⟨a, b, c, rfl⟩
        obtain ⟨u0, q0, _, w0⟩ := DataW.trod_string Tryz.underlying9 (show DataW.trod enc Tryz.prog W base spare held n' 9 [x0] = some y0 from g0)
        obtain ⟨u1, q1, _, w1⟩ := DataW.trod_string Tryz.underlying9 (show DataW.trod enc Tryz.prog W base spare held n' 9 [x1] = some y1 from g1)
        obtain ⟨u2, q2, _, w2⟩ := DataW.trod_string Tryz.underlying9 (show DataW.trod enc Tryz.prog W base spare held n' 9 [x2] = some y2 from g2)
        simp only [List.cons.injEq, and_true] at q0 q1 q2
        subst q0; subst q1; subst q2
        have a0 := hat 0 (by omega)
        have a1 := hat 1 (by omega)
        have a2 := hat 2 (by omega)
        rw [Go.Deep.add_add] at a0 a1 a2
        refine ⟨(u0.data.toList, u1.data.toList, u2.data.toList), ?_, ?_, ?_, by rw [← size_toList]; exact w0, by rw [← size_toList]; exact w1, by rw [← size_toList]; exact w2⟩
        · rw [a0]; show some (Value.string u0) = some (.string (bs u0.data.toList)); rw [bs_of]
        · rw [a1]; show some (Value.string u1) = some (.string (bs u1.data.toList)); rw [bs_of]
        · rw [a2]; show some (Value.string u2) = some (.string (bs u2.data.toList)); rw [bs_of]
      obtain ⟨F, hF⟩ := choose_lt each
      have hsp := spot_none (hF 0 h0).1
      have hll : ((List.range len).map fun i => (⟨(F i).1, (F i).2.1, (F i).2.2⟩ : ActN)).length = len := by simp
      obtain ⟨g, o, sp⟩ := a
      have hsp' : sp = none := by
        have := hsp
        unfold Addr.add at this
        split at this <;> simp_all
      subst hsp'
      refine ⟨(List.range len).map fun i => ⟨(F i).1, (F i).2.1, (F i).2.2⟩, ⟨_, cap, by rw [hll], by rw [hll]; exact hl, fun _ => ⟨g, o, rfl, ?_, fun k hk => ?_⟩⟩, fun q hq => ?_, by rw [hll]; omega⟩
      · have := (hF 0 h0).1
        rw [Addr.add_lit] at this
        exact World.block_lt_of_cell? W _ this
      · have hk' : k < len := by rw [hll] at hk; exact hk
        obtain ⟨c0, c1, c2, _⟩ := hF k hk'
        rw [Addr.add_lit] at c0 c1 c2
        simp only [List.getElem_map, List.getElem_range]
        exact ⟨c0, c1, c2⟩
      · simp only [List.mem_map, List.mem_range] at hq
        obtain ⟨i, hi', rfl⟩ := hq
        obtain ⟨_, _, _, h1, h2, h3⟩ := hF i hi'
        exact ⟨h1, h2, h3⟩
end Go.Proofs.YtpanoplcamdnkaaGreatDoor

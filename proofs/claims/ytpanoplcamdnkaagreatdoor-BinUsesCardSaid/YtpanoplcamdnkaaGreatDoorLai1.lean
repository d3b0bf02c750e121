/- OpenH, LaidS, SentL, LaidK, LaidP, HandS in one text. Conditions: as each part says. -/
import Derived.Test.YtpanoplcamdnkaaGreatDoorOpenS
import Derived.Test.YtpanoplcamdnkaaGreatDoorOpenI
import Derived.Test.YtpanoplcamdnkaaGreatDoorHlds
import Derived.ChangeArms
import Derived.Deep.LoopGhost
import Derived.LaidLaws
import Derived.LaidHandle
import Derived.LaidSub
import Derived.MakeChecks
import Derived.Stop.LaidErr
import Derived.WalkKit
import Derived.Test.YtpanoplcamdnkaaGreatDoorPrt2
import Derived.Test.YtpanoplcamdnkaaGreatDoorPrt1
import Derived.Lib.LaidTab
import Derived.Handed
import Derived.SizedLaws
import Derived.HandedShaped
import Derived.Shelf.Vars
/- An argument that is a slice of pieces of a bin is opened. No conditions. -/
namespace Go.Proofs.YtpanoplcamdnkaaGreatDoor
open Go.RowKit Go.ChangeShapes Go.WideShapes Go.Deep

theorem held_one : ∃ f0 f1 f2, Tryz.prog.underlying 82 = some (.struct #[f0, f1, f2]) ∧ f0.type = 47 ∧ f1.type = 3 ∧ f2.type = 9 ∧ f0.offset = 0 ∧ f1.offset = 2 ∧ f2.offset = 3 := ⟨_, _, _, Tryz.underlying82, by kernel_rfl, by kernel_rfl, by kernel_rfl, by kernel_rfl, by kernel_rfl, by kernel_rfl⟩
theorem idh_one : ∃ f0 f1, Tryz.prog.underlying 47 = some (.struct #[f0, f1]) ∧ f0.type = 45 ∧ f1.type = 3 ∧ f0.offset = 0 ∧ f1.offset = 1 := ⟨_, _, Tryz.underlying47, by kernel_rfl, by kernel_rfl, by kernel_rfl, by kernel_rfl⟩
theorem held_cells : Tryz.prog.cellsOf 82 = 4 ∧ Tryz.prog.cellsOf 9 = 1 ∧ Tryz.prog.cellsOf 47 = 2 ∧ Tryz.prog.cellsOf 45 = 1 ∧ Tryz.prog.cellsOf 3 = 1 := ⟨by kernel_rfl, by kernel_rfl, by kernel_rfl, by kernel_rfl, by kernel_rfl⟩
theorem four_ofH {α : Type} {l : List α} (h : l.length = 4) : ∃ a b c d, l = [a, b, c, d] := by
  match l, h with
  | [a, b, c, d], _ => exact ⟨a, b, c, d, rfl⟩
theorem get_hldRow {L : HldL} {k : Nat} {u : Value} (h : (hldRow L)[k]? = some u) : ∃ hd : k / 4 < L.length, (hldC L[k / 4])[k % 4]? = some u := by
  have hk : k < (hldRow L).length := (List.getElem?_eq_some_iff.1 h).1
  rw [hldRow_length] at hk
  have hd : k / 4 < L.length := by omega
  refine ⟨hd, ?_⟩
  rw [← hldRow_at L (k / 4) hd (k % 4) (Nat.mod_lt _ (by decide)), show k / 4 * 4 + k % 4 = k by omega]
  exact h
/-- pieces out of their cells -/
theorem RdL.of {w : World} {B g o c : Nat} {L : HldL} (hc : L.length ≤ c) (hg : g < B) (h : ∀ k (hk : k < L.length),
    w.cell? ⟨g, o + k * 4 + 0, none⟩ = some (.int .u32 (L[k].id.1 : Int)) ∧ w.cell? ⟨g, o + k * 4 + 1, none⟩ = some (.int .i64 L[k].id.2) ∧ w.cell? ⟨g, o + k * 4 + 2, none⟩ = some (.int .i64 L[k].uses) ∧ w.cell? ⟨g, o + k * 4 + 3, none⟩ = some (.string (bs L[k].text))) :
    RdL w B (.slice (some ⟨g, o, none⟩) L.length c) L := by
  refine ⟨_, c, rfl, hldRow_length L, hc, fun _ => ⟨g, o, rfl, hg, fun k u hu => ?_⟩⟩
  obtain ⟨hd, hu⟩ := get_hldRow hu
  obtain ⟨c0, c1, c2, c3⟩ := h (k / 4) hd
  have e : o + k = o + k / 4 * 4 + k % 4 := by omega
  rw [e]
  have hm : k % 4 < 4 := Nat.mod_lt _ (by decide)
  generalize k % 4 = j at hu hm ⊢
  match j, hm, hu with
  | 0, _, hu => rw [← hu]; exact c0
  | 1, _, hu => rw [← hu]; exact c1
  | 2, _, hu => rw [← hu]; exact c2
  | 3, _, hu => rw [← hu]; exact c3
set_option maxRecDepth 100000 in
theorem open_helds {H : Type} {enc : TypeId × Value → H} {W : World} {base b0 : Nat} {spare : Nat → Bool} {held : Bool} {r : Reach} {v : Value} {d : DataW H} {ps : List MemPlace}
    (hv : Value.okWide Tryz.prog W r b0 54 v) (h : DataW.Trod enc Tryz.prog W base spare held 54 v d ps) :
    ∃ l : HldL, RdL W W.heap.size v l ∧ (∀ x ∈ l, HldW x ∧ x.text.length ≤ maxLen) ∧ l.length ≤ maxLen := by
  obtain ⟨f0, f1, f2, hu, t0, t1, t2, o0, o1, o2⟩ := held_one
  obtain ⟨i0, i1, hiu, s0, s1, p0, p1⟩ := idh_one
  obtain ⟨k4, k1, k2, ku, ki⟩ := held_cells
  obtain ⟨A, len, cap, rfl⟩ := okWide_slice Tryz.underlying54 hv
  obtain ⟨fuel, hf⟩ := h
  have hf' : DataW.trod enc Tryz.prog W base spare held fuel 54 [.slice A len cap] = some (d, ps) := by simpa [Value.cells] using hf
  rcases open_slice Tryz.underlying54 hf' with ⟨h1, _⟩ | ⟨a, len', cap', m, n, D, Pl, h1, _, hl, hm, hmm, _, hi⟩
  · simp only [List.cons.injEq, Value.slice.injEq, and_true] at h1
    obtain ⟨rfl, rfl, rfl⟩ := h1
    exact ⟨[], RdL.nil _ _, fun o h => absurd h List.not_mem_nil, Nat.zero_le maxLen⟩
  · simp only [List.cons.injEq, Value.slice.injEq, and_true] at h1
    obtain ⟨rfl, rfl, rfl⟩ := h1
    have hlm : len ≤ m := by rw [hmm]; split <;> omega
    rcases Nat.eq_zero_or_pos len with h0 | h0
    · subst h0
      exact ⟨[], RdC.nilP _ _ 4 (some a) cap, fun o h => absurd h List.not_mem_nil, Nat.zero_le maxLen⟩
    · have each : ∀ i, i < len → ∃ q : Hld, W.cell? (a.add (i * 4 + 0)) = some (.int .u32 (q.id.1 : Int)) ∧ W.cell? (a.add (i * 4 + 1)) = some (.int .i64 q.id.2) ∧ W.cell? (a.add (i * 4 + 2)) = some (.int .i64 q.uses) ∧ W.cell? (a.add (i * 4 + 3)) = some (.string (bs q.text)) ∧
          HldW q ∧ q.text.length ≤ maxLen := fun i hi' => by
        obtain ⟨cs, hc, ht⟩ := hi i (by omega)
        rw [k4] at hc
        obtain ⟨_, hcl, hat⟩ := World.cells?_some hc
        obtain ⟨x0, x1, x2, x3, rfl⟩ := four_ofH hcl
        obtain ⟨ys, n', _, _, _, _, hf⟩ := DataW.trod_struct hu ht
        have g0 := hf 0 f0 rfl
        have g1 := hf 1 f1 rfl
        have g2 := hf 2 f2 rfl
        rw [o0, t0, k2] at g0
        rw [o1, t1, ki] at g1
        rw [o2, t2, k1] at g2
        have hys : ys.length = 3 := by assumption
        obtain ⟨y0, y1, y2, rfl⟩ : ∃ a b c, ys = [a, b, c] := by
          match ys, hys with
          | [a, b, c], _ => exact ⟨a, b, c, rfl⟩
        obtain ⟨u1, q1, _, w1⟩ := DataW.trod_int Tryz.underlying3 (show DataW.trod enc Tryz.prog W base spare held n' 3 [x2] = some y1 from g1)
        obtain ⟨u0, q0, _, w0⟩ := DataW.trod_string Tryz.underlying9 (show DataW.trod enc Tryz.prog W base spare held n' 9 [x3] = some y2 from g2)
        obtain ⟨zs, n'', _, _, _, hzl, hg⟩ := DataW.trod_struct hiu (show DataW.trod enc Tryz.prog W base spare held n' 47 [x0, x1] = some y0 from g0)
        have j0 := hg 0 i0 rfl
        have j1 := hg 1 i1 rfl
        rw [p0, s0, ku] at j0
        rw [p1, s1, ki] at j1
        obtain ⟨z0, z1, rfl⟩ : ∃ a b, zs = [a, b] := by
          match zs, hzl with
          | [a, b], _ => exact ⟨a, b, rfl⟩
        obtain ⟨v2, q2, _, w2⟩ := DataW.trod_int Tryz.underlying45 (show DataW.trod enc Tryz.prog W base spare held n'' 45 [x0] = some z0 from j0)
        obtain ⟨v3, q3, _, w3⟩ := DataW.trod_int Tryz.underlying3 (show DataW.trod enc Tryz.prog W base spare held n'' 3 [x1] = some z1 from j1)
        simp only [List.cons.injEq, and_true] at q0 q1 q2 q3
        subst q0; subst q1; subst q2; subst q3
        have b2 := u32_bounds w2
        have b3 := i64_bounds w3
        have b1 := i64_bounds w1
        have a0 := hat 0 (by omega)
        have a1 := hat 1 (by omega)
        have a2 := hat 2 (by omega)
        have a3 := hat 3 (by omega)
        rw [Go.Deep.add_add] at a0 a1 a2 a3
        refine ⟨⟨(v2.toNat, v3), u1, u0.data.toList⟩, ?_, a1, a2, ?_, ⟨⟨by show v2.toNat < _; omega, b3.1, b3.2⟩, b1.1, b1.2⟩, by show u0.data.toList.length ≤ _; rw [← size_toList]; exact w0⟩
        · rw [a0]; show some (Value.int .u32 v2) = some (.int .u32 ((v2.toNat : Nat) : Int)); rw [show ((v2.toNat : Nat) : Int) = v2 by omega]
        · rw [a3]; show some (Value.string u0) = some (.string (bs u0.data.toList)); rw [bs_of]
      obtain ⟨F, hF⟩ := choose_lt each
      have hsp := spot_none (hF 0 h0).1
      have hll : ((List.range len).map fun i => F i).length = len := by simp
      obtain ⟨g, o, sp⟩ := a
      have hsp' : sp = none := by
        have := hsp
        unfold Addr.add at this
        split at this <;> simp_all
      subst hsp'
      refine ⟨(List.range len).map fun i => F i, ?_, fun q hq => ?_, by rw [hll]; omega⟩
      · have := RdL.of (w := W) (B := W.heap.size) (g := g) (o := o) (c := cap) (L := (List.range len).map fun i => F i) (by rw [hll]; exact hl) (by
          have := (hF 0 h0).1
          rw [Addr.add_lit] at this
          exact World.block_lt_of_cell? W _ this) (fun k hk => by
          have hk' : k < len := by rw [hll] at hk; exact hk
          obtain ⟨c0, c1, c2, c3, _⟩ := hF k hk'
          rw [Addr.add_lit] at c0 c1 c2 c3
          simp only [List.getElem_map, List.getElem_range]
          exact ⟨c0, by rw [Nat.add_assoc]; exact c1, by rw [Nat.add_assoc]; exact c2, by rw [Nat.add_assoc]; exact c3⟩)
        rw [hll] at this
        exact this
      · simp only [List.mem_map, List.mem_range] at hq
        obtain ⟨i, hi', rfl⟩ := hq
        obtain ⟨_, _, _, _, h1, h2⟩ := hF i hi'
        exact ⟨h1, h2⟩
end Go.Proofs.YtpanoplcamdnkaaGreatDoor
/- Out of the card's condition: sentinel errors lie at different addresses, each with its text. No program in sight; no conditions. -/
namespace Go.Proofs.YtpanoplcamdnkaaGreatDoor
open Go.RowKit
/-- a sentinel's name, text and variable -/
abbrev SRow := String × List UInt8 × Nat
def sentRow (nm : String) (x : SRow) : String × DataW Unit := (x.1, .iface nm (.ptr (.agg [.lit (.string x.2.1)])))
/-- what the condition gives of one -/
def SentAt (tp : TypeId) (a : Nat → Addr) (W : World) (x : SRow) : Prop :=
  W.cell? ⟨x.2.2, 0, none⟩ = some (.iface tp (.pointer (some (a x.2.2)))) ∧ (∃ s, W.cell? (a x.2.2) = some (.string s) ∧ s.data.toList = x.2.1) ∧ (∃ c t, W.heap[(a x.2.2).block]? = some (.cells c t (0, 0)))
theorem addr_place {a b : Addr} (ha : a.spot = none) (hb : b.spot = none) (h : a ≠ b) : MemPlace.cell a.block a.off ≠ MemPlace.cell b.block b.off := by
  intro he
  injection he with h1 h2
  apply h
  cases a; cases b; simp_all
theorem spot_of_cell {W : World} {a : Addr} {v : Value} (h : W.cell? a = some v) : a.spot = none := by
  unfold World.cell? at h
  split at h
  · cases hs : a.spot with
    | none => rfl
    | some x => rw [hs] at h; simp at h
  · cases h
theorem sents_of_laidVars {P : Program} {W : World} {nm : String} {ti tp te ts : TypeId} {ms : Array (String × TypeId)} {f : Field}
    (hi : P.underlying ti = some (.interface ms)) (hrow : ∀ u, P.typeName? 3 u = some nm → u = tp)
    (hp : P.underlying tp = some (.pointer te)) (he : P.underlying te = some (.struct #[f])) (hft : f.type = ts) (hfo : f.offset = 0) (hs : P.underlying ts = some .string) (hc : P.cellsOf te = 1) (hcs : P.cellsOf ts = 1) :
    ∀ (L : List SRow) (ps : List MemPlace), (∀ x ∈ L, P.globalNamed x.1 = some x.2.2 ∧ (P.globals[x.2.2]?).map (·.type) = some ti) → (L.map (·.2.2)).Nodup →
      DataW.LaidVars P W (L.map (sentRow nm)) ps → ps.Nodup → (∀ b off, MemPlace.cell b off ∈ ps → (∃ c t, W.heap[b]? = some (.cells c t (0, 0))) ∧ ∀ u v, W.cell? ⟨b, off, none⟩ = some (.iface u v) → Value.okWide P W .any 0 u v) →
      ∃ a : Nat → Addr, (∀ x ∈ L, SentAt tp a W x ∧ MemPlace.cell (a x.2.2).block (a x.2.2).off ∈ ps) ∧ ∀ x ∈ L, ∀ y ∈ L, x.2.2 ≠ y.2.2 → a x.2.2 ≠ a y.2.2
  | [], _, _, _, _, _, _ => ⟨fun _ => ⟨0, 0, none⟩, fun x h => (by cases h), fun x h => (by cases h)⟩
  | x :: L, ps, hg, hnd, hl, hps, hrows => by
    rw [List.map_cons] at hl
    obtain ⟨g0, t0, cs0, f0, p0, q0, hg0, ht0, hv0, hd0, hr, e0⟩ := hl
    obtain ⟨hgx, htx⟩ := hg x List.mem_cons_self
    obtain rfl := Option.some.inj (hgx.symm.trans hg0)
    obtain rfl := Option.some.inj (htx.symm.trans ht0)
    subst e0
    rw [List.map_cons, List.nodup_cons] at hnd
    obtain ⟨l0⟩ := cs0
    have ok0 : ∀ u v, l0 = [.iface u v] → Value.okWide P W .any 0 u v := fun u v e => by
      subst e
      exact (hrows x.2.2 0 (by simp [MemPlace.row])).2 u v (by simpa using World.var?_cell hg0 hv0 0)
    obtain ⟨a0, s0, rfl, hc0, hs0, _, rfl⟩ := errorString_of_trod hi hrow hp he hft hfo hs hc hcs hd0 ok0
    obtain ⟨a, ha, hne⟩ := sents_of_laidVars hi hrow hp he hft hfo hs hc hcs L q0 (fun y hy => hg y (List.mem_cons_of_mem _ hy)) hnd.2 hr (List.Nodup.sublist (List.sublist_append_right _ _) hps) (fun b off hm => hrows b off (List.mem_append_right _ hm))
    have hother : ∀ y ∈ L, y.2.2 ≠ x.2.2 := fun y hy h0 => hnd.1 (by rw [← h0]; exact List.mem_map_of_mem hy)
    have hpl : MemPlace.cell a0.block a0.off ∈ MemPlace.row ⟨x.2.2, 0, none⟩ 1 ++ MemPlace.row a0 1 := by simp [MemPlace.row]
    have hpl2 : MemPlace.cell a0.block a0.off ∉ q0 := fun hm => (List.nodup_append.1 hps).2.2 _ hpl _ hm rfl
    refine ⟨fun g => if g = x.2.2 then a0 else a g, fun y hy => ?_, fun y hy z hz hyz => ?_⟩
    · rcases List.mem_cons.1 hy with rfl | hy
      · simp only [SentAt, if_true]
        refine ⟨⟨by simpa using World.var?_cell hg0 hv0 0, ⟨s0, hc0, hs0⟩, (hrows _ _ (List.mem_append_left _ hpl)).1⟩, List.mem_append_left _ hpl⟩
      · obtain ⟨⟨h1, h2, h3⟩, h4⟩ := ha y hy
        simp only [SentAt, if_neg (hother y hy)]
        exact ⟨⟨h1, h2, h3⟩, List.mem_append_right _ h4⟩
    · rcases List.mem_cons.1 hy with rfl | hy'
      · rcases List.mem_cons.1 hz with rfl | hz'
        · exact absurd rfl hyz
        · simp only [if_true, if_neg (hother z hz')]
          intro h0
          exact hpl2 (by rw [h0]; exact (ha z hz').2)
      · rcases List.mem_cons.1 hz with rfl | hz'
        · simp only [if_true, if_neg (hother y hy')]
          intro h0
          exact hpl2 (by rw [← h0]; exact (ha y hy').2)
        · simp only [if_neg (hother y hy'), if_neg (hother z hz')]
          exact hne y hy' z hz' hyz
end Go.Proofs.YtpanoplcamdnkaaGreatDoor
/- Sents out of the card's condition: the twelve sentinels and the type handle lie as the program's text lays them. No conditions. -/
namespace Go.Proofs.YtpanoplcamdnkaaGreatDoor
open Go.RowKit
def S12 : List SRow := [("cornbin/api.ErrText", [99, 111, 114, 110, 98, 105, 110, 58, 32, 116, 101, 120, 116], 5),
  ("cornbin/api.ErrBound", [99, 111, 114, 110, 98, 105, 110, 58, 32, 98, 111, 117, 110, 100], 3),
  ("cornbin/api.ErrShape", [99, 111, 114, 110, 98, 105, 110, 58, 32, 115, 104, 97, 112, 101], 8),
  ("cornbin/api.ErrName", [99, 111, 114, 110, 98, 105, 110, 58, 32, 110, 97, 109, 101], 9),
  ("cornbin/api.ErrNone", [99, 111, 114, 110, 98, 105, 110, 58, 32, 110, 111, 110, 101], 2),
  ("cornbin/api.ErrExist", [99, 111, 114, 110, 98, 105, 110, 58, 32, 101, 120, 105, 115, 116], 0),
  ("cornbin/api.ErrFull", [99, 111, 114, 110, 98, 105, 110, 58, 32, 102, 117, 108, 108], 1),
  ("cornbin/api.ErrOrder", [99, 111, 114, 110, 98, 105, 110, 58, 32, 111, 114, 100, 101, 114], 7),
  ("cornbin/api.ErrSum", [99, 111, 114, 110, 98, 105, 110, 58, 32, 115, 117, 109], 10),
  ("cornbin/api.ErrClash", [99, 111, 114, 110, 98, 105, 110, 58, 32, 99, 108, 97, 115, 104], 4),
  ("cornbin/api.ErrUsed", [99, 111, 114, 110, 98, 105, 110, 58, 32, 117, 115, 101, 100], 6),
  ("cornbin/api.ErrOff", [99, 111, 114, 110, 98, 105, 110, 58, 32, 111, 102, 102], 11)]
theorem S12_ok : (S12.all fun x => Tryz.prog.globalNamed x.1 == some x.2.2 && (Tryz.prog.globals[x.2.2]?).map (·.type) == some 31) = true := by kernel_rfl
theorem errStar : "*" ++ "errors.errorString" = "*errors.errorString" := by decide
theorem errRow (u : TypeId) (h : Tryz.prog.typeName? 3 u = some "*errors.errorString") : u = 361 :=
  typeName_ptr_named (nm := "errors.errorString") (by rw [errStar]; kernel_rfl) (by kernel_rfl) (by decide) u (by rw [errStar]; exact h)
theorem S12_cP : Tryz.prog.cellsOf 363 = 1 := by kernel_rfl
theorem S12_cS : Tryz.prog.cellsOf 9 = 1 := by kernel_rfl
def isErr (x : String × DataW Unit) : Bool := S12.any fun y => y.1 == x.1
def isEty (x : String × DataW Unit) : Bool := x.1 == "errors.errorType"
def etyRow : String × DataW Unit := ("errors.errorType", .iface "internal/reflectlite.rtype" (.agg [.ptr (.lit (.string [101, 114, 114, 111, 114]))]))
theorem ety_row : ((List.range 392).filter fun t => Tryz.prog.rowNamed t [101, 114, 114, 111, 114]) = [31] := by kernel_rfl
theorem ety_size : Tryz.prog.types.size = 392 := by kernel_rfl
theorem ety_rt : (Tryz.prog.cutTypes.find? (·.1 == "internal/reflectlite.rtype")).map (·.2) = some 295 := by kernel_rfl
theorem ety_g : Tryz.prog.globalNamed "errors.errorType" = some 12 := by kernel_rfl
theorem ety_h : typeHandle Tryz.prog 31 = .pointer (some ⟨21, 31, none⟩) := by kernel_rfl
theorem ety_of {W : World} {l : List (String × DataW Unit)} (h : laidMetH Tryz.prog l W) (h2 : l.filter isEty = [etyRow]) :
    W.cell? ⟨12, 0, none⟩ = some (.iface 295 (.agg #[.pointer (some ⟨21, 31, none⟩)])) := by
  have h' := h.filter isEty
  rw [h2] at h'
  have h3 : laidMet Tryz.prog [] W ∧ handlesMet Tryz.prog [etyRow] W := h'
  obtain ⟨name, u, ty, e1, e2, e3, e4, e5⟩ := h3.2 _ (List.mem_singleton.2 rfl)
  have en : name = [101, 114, 114, 111, 114] := (Option.some.inj e1).symm
  subst en
  obtain rfl := Option.some.inj (ety_rt.symm.trans e2)
  have hm : ty ∈ (List.range 392).filter fun t => Tryz.prog.rowNamed t [101, 114, 114, 111, 114] := List.mem_filter.2 ⟨List.mem_range.2 (by rw [← ety_size]; exact e3), e4⟩
  rw [ety_row] at hm
  obtain rfl := List.mem_singleton.1 hm
  rw [ety_h] at e5
  simpa using World.var?_cell ety_g e5 0
theorem S12_get (k : Nat) (hk : k < 12) : ∃ x ∈ S12, x.2.2 = sv k := by
  have h : S12.map (·.2.2) = (List.range 12).map sv := rfl
  have hm : sv k ∈ S12.map (·.2.2) := by rw [h]; exact List.mem_map.2 ⟨k, List.mem_range.2 hk, rfl⟩
  obtain ⟨x, hx, he⟩ := List.mem_map.1 hm
  exact ⟨x, hx, he⟩
theorem sv_inj (i j : Nat) (hi : i < 12) (hj : j < 12) (h : i ≠ j) : sv i ≠ sv j := by
  have : ((List.range 12).all fun i => (List.range 12).all fun j => i == j || sv i != sv j) = true := by decide
  simp only [List.all_eq_true, List.mem_range, Bool.or_eq_true, beq_iff_eq, bne_iff_ne] at this
  exact (this i hi j hj).resolve_left h
theorem sents_err {W : World} {l : List (String × DataW Unit)} (h : laidMetH Tryz.prog l W) (h1 : l.filter isErr = S12.map (sentRow "*errors.errorString")) :
    ∃ a : Nat → Addr, (∀ x ∈ S12, SentAt 361 a W x) ∧ ∀ x ∈ S12, ∀ y ∈ S12, x.2.2 ≠ y.2.2 → a x.2.2 ≠ a y.2.2 := by
  have h' := h.filter isErr
  rw [h1, MakeChecks.laidMetH_plain _ _ _ (by kernel_rfl)] at h'
  obtain ⟨ps, hl, hnd, hr⟩ := h'
  obtain ⟨a, ha, hne⟩ := sents_of_laidVars Tryz.underlying31 errRow Tryz.underlying361 Tryz.underlying363 rfl rfl Tryz.underlying9 S12_cP S12_cS S12 ps (fun x hx => by
    have := List.all_eq_true.1 S12_ok x hx
    simpa using this) (by decide) hl hnd hr
  exact ⟨a, fun x hx => (ha x hx).1, hne⟩
theorem Sents.of_laid {W : World} {l : List (String × DataW Unit)} (h : laidMetH Tryz.prog l W) (h1 : l.filter isErr = S12.map (sentRow "*errors.errorString")) (h2 : l.filter isEty = [etyRow]) : ∃ a, Sents a W := by
  obtain ⟨a, ha, hne⟩ := sents_err h h1
  refine ⟨fun k => a (sv k), fun k hk => ?_, fun k hk => ?_, fun i j hi hj hij => ?_, ety_of h h2⟩
  · obtain ⟨x, hx, he⟩ := S12_get k hk
    have := (ha x hx).1
    rw [he] at this
    exact this
  · obtain ⟨x, hx, he⟩ := S12_get k hk
    have := (ha x hx).2.2
    rw [he] at this
    exact this
  · obtain ⟨x, hx, hxe⟩ := S12_get i hi
    obtain ⟨y, hy, hye⟩ := S12_get j hj
    have := hne x hx y hy (by rw [hxe, hye]; exact sv_inj i j hi hj hij)
    rwa [hxe, hye] at this
end Go.Proofs.YtpanoplcamdnkaaGreatDoor
/- Some sentinels and the library's tables out of the card's condition. No conditions. -/
namespace Go.Proofs.YtpanoplcamdnkaaGreatDoor
open Go.RowKit Go.Lib

def srow (k : Nat) : SRow := S12.getD k ("", [], 0)
theorem srow_sv (k : Nat) (hk : k < 12) : (srow k).2.2 = sv k ∧ srow k ∈ S12 := by
  have h : ∀ i : Fin 12, (srow i.1).2.2 = sv i.1 := by decide
  refine ⟨h ⟨k, hk⟩, ?_⟩
  unfold srow
  have hl : k < S12.length := hk
  rw [List.getD_eq_getElem?_getD, List.getElem?_eq_getElem hl]
  exact List.getElem_mem hl
def isK (k : Nat) (x : String × DataW Unit) : Bool := (srow k).1 == x.1
theorem one_of_laid {W : World} {l : List (String × DataW Unit)} (h : laidMetH Tryz.prog l W) (k : Nat) (hk : k < 12) (h1 : l.filter (isK k) = [sentRow "*errors.errorString" (srow k)]) :
    ∃ p, W.cell? ⟨sv k, 0, none⟩ = some (.iface 361 (.pointer (some p))) := by
  have h' := h.filter (isK k)
  have hr : (srow k).1 ≠ "errors.errorType" := by
    have : ∀ i : Fin 12, (srow i.1).1 ≠ "errors.errorType" := by decide
    exact this ⟨k, hk⟩
  rw [h1] at h'
  have h3 : laidMet Tryz.prog [sentRow "*errors.errorString" (srow k)] W := by
    have hp : ∀ i : Fin 12, laidMetH Tryz.prog [sentRow "*errors.errorString" (srow i.1)] W = laidMet Tryz.prog [sentRow "*errors.errorString" (srow i.1)] W := by
      intro i
      match i with
      | ⟨0, _⟩ | ⟨1, _⟩ | ⟨2, _⟩ | ⟨3, _⟩ | ⟨4, _⟩ | ⟨5, _⟩ | ⟨6, _⟩ | ⟨7, _⟩ | ⟨8, _⟩ | ⟨9, _⟩ | ⟨10, _⟩ | ⟨11, _⟩ => exact MakeChecks.laidMetH_plain _ _ _ (by kernel_rfl)
    rw [hp ⟨k, hk⟩] at h'
    exact h'
  have hg := List.all_eq_true.1 S12_ok (srow k) (srow_sv k hk).2
  simp only [Bool.and_eq_true, beq_iff_eq] at hg
  rw [(srow_sv k hk).1] at hg
  obtain ⟨a1, s1, hv1, _⟩ := laid_sentinel h3 hg.1 hg.2 Tryz.underlying31 errRow Tryz.underlying361 Tryz.underlying363 rfl rfl Tryz.underlying9 S12_cP S12_cS
  exact ⟨a1, by simpa using World.var?_cell hg.1 hv1 0⟩
theorem someS_of_laid {W : World} {l : List (String × DataW Unit)} (h : laidMetH Tryz.prog l W) (ks : List Nat) (hk : ∀ k ∈ ks, k < 12) (h1 : ∀ k ∈ ks, l.filter (isK k) = [sentRow "*errors.errorString" (srow k)]) : ∃ a, SomeS ks a W := by
  have hx := fun k hm => one_of_laid h k (hk k hm) (h1 k hm)
  refine ⟨fun k => if hm : k ∈ ks then Classical.choose (hx k hm) else ⟨0, 0, none⟩, fun k hm => ?_⟩
  unfold sval
  simp only [hm, dif_pos]
  exact Classical.choose_spec (hx k hm)
def isN (s : String) (x : String × DataW Unit) : Bool := s == x.1
theorem pow_of_laid {W : World} {l : List (String × DataW Unit)} (h : laidMetH Tryz.prog l W) (h1 : l.filter (isN "internal/strconv.uint64pow10") = [("internal/strconv.uint64pow10", tabData .u64 pow10Tab)]) :
    TabIs Tryz.prog W "internal/strconv.uint64pow10" .u64 pow10Tab := by
  have h' := h.filter (isN "internal/strconv.uint64pow10")
  rw [h1, MakeChecks.laidMetH_plain _ _ _ (by kernel_rfl)] at h'
  exact tabIs_of_head (g := 14) (by kernel_rfl) (by kernel_rfl) Tryz.underlying342 Tryz.underlying242 (by kernel_rfl) (by kernel_rfl) h'
def deB64 : List Int := [0, 1, 56, 2, 57, 49, 28, 3, 61, 58, 42, 50, 38, 29, 17, 4, 62, 47, 59, 36, 45, 43, 51, 22, 53, 39, 33, 30, 24, 18, 12, 5, 63, 55, 48, 27, 60, 41, 37, 16, 46, 35, 44, 21, 52, 32, 23, 11, 54, 26, 40, 15, 34, 20, 31, 10, 25, 14, 19, 9, 13, 8, 7, 6]
theorem deb_of_laid {W : World} {l : List (String × DataW Unit)} (h : laidMetH Tryz.prog l W) (h1 : l.filter (isN "math/bits.deBruijn64tab") = [("math/bits.deBruijn64tab", tabData .u8 deB64)]) :
    W.cell? ⟨20, 15, none⟩ = some (.int .u8 4) := by
  have h' := h.filter (isN "math/bits.deBruijn64tab")
  rw [h1, MakeChecks.laidMetH_plain _ _ _ (by kernel_rfl)] at h'
  have ht := tabIs_of_head (g := 20) (by kernel_rfl) (by kernel_rfl) Tryz.underlying365 Tryz.underlying5 (by kernel_rfl) (by kernel_rfl) h'
  exact ht.cell (g := 20) (by kernel_rfl) 15 (by decide)
theorem Tabs.of_laid {W : World} {l : List (String × DataW Unit)} (h : laidMetH Tryz.prog l W) (h1 : l.filter (isN "internal/strconv.uint64pow10") = [("internal/strconv.uint64pow10", tabData .u64 pow10Tab)])
    (h2 : l.filter (isN "math/bits.deBruijn64tab") = [("math/bits.deBruijn64tab", tabData .u8 deB64)]) : Tabs W := ⟨pow_of_laid h h1, deb_of_laid h h2⟩
end Go.Proofs.YtpanoplcamdnkaaGreatDoor
/- strconv's two error variables out of the card's condition. No conditions. -/
namespace Go.Proofs.YtpanoplcamdnkaaGreatDoor
open Go.RowKit Go.Lib

theorem var_of_laid {W : World} {l : List (String × DataW Unit)} (h : laidMetH Tryz.prog l W) (r : SRow) (hg1 : Tryz.prog.globalNamed r.1 = some r.2.2) (hg2 : (Tryz.prog.globals[r.2.2]?).map (·.type) = some 31)
    (h1 : l.filter (isN r.1) = [sentRow "*errors.errorString" r]) (hp : laidMetH Tryz.prog [sentRow "*errors.errorString" r] W = laidMet Tryz.prog [sentRow "*errors.errorString" r] W) :
    ∃ T q, W.cell? ⟨r.2.2, 0, none⟩ = some (.iface T q) := by
  have h' := h.filter (isN r.1)
  rw [h1, hp] at h'
  obtain ⟨a1, s1, hv1, _⟩ := laid_sentinel h' hg1 hg2 Tryz.underlying31 errRow Tryz.underlying361 Tryz.underlying363 rfl rfl Tryz.underlying9 S12_cP S12_cS
  exact ⟨_, _, by simpa using World.var?_cell hg1 hv1 0⟩
def synRow : SRow := ("strconv.ErrSyntax", [105, 110, 118, 97, 108, 105, 100, 32, 115, 121, 110, 116, 97, 120], 15)
def rngRow : SRow := ("strconv.ErrRange", [118, 97, 108, 117, 101, 32, 111, 117, 116, 32, 111, 102, 32, 114, 97, 110, 103, 101], 16)
theorem Perrs.of_laid {W : World} {l : List (String × DataW Unit)} (h : laidMetH Tryz.prog l W) (h1 : l.filter (isN "strconv.ErrSyntax") = [sentRow "*errors.errorString" synRow]) (h2 : l.filter (isN "strconv.ErrRange") = [sentRow "*errors.errorString" rngRow]) : Perrs W :=
  ⟨var_of_laid h synRow (by kernel_rfl) (by kernel_rfl) h1 (MakeChecks.laidMetH_plain _ _ _ (by kernel_rfl)), var_of_laid h rngRow (by kernel_rfl) (by kernel_rfl) h2 (MakeChecks.laidMetH_plain _ _ _ (by kernel_rfl))⟩
end Go.Proofs.YtpanoplcamdnkaaGreatDoor
/- The wrap of a row whose claim bears a further premise, the world's shape kept (after the kit's two wraps, joined). No program in sight. No conditions. -/
namespace Go.Proofs.YtpanoplcamdnkaaGreatDoor
open Go
variable {H : Type} {enc : TypeId × Value → H}
theorem handed_and_shaped {a : Assume} {C : Checked} {os : Os} {f : FuncId} {fn : Func} {s : ChangeSpec} {conds : List PathCond} {apart fresh handsOn again : Bool} {X : World → Array Value → Prop}
    (hX : ∀ (w w' : World) (args : Array Value), w.heap = w'.heap → X w args → X w' args)
    (own : ownKnob C.prog.godebug = none) (started : os.Started) (noInit : C.prog.inits.idxOf? f = none) (hfn : C.prog.funcs[f]? = some fn)
    (witness : ∃ (w : World) (tape : Tape) (i : Input), w.os = os ∧ (w.forCall tape i).Shaped C.prog ∧ i.vars = [] ∧ Input.okWide C.prog (w.forCall tape i) .any w.heap.size f i ∧
      ((s.pre enc C.prog fn conds apart (w.forCall tape i).memory i.args ∧ X (w.forCall tape i).memory i.args) ∧ sizedMet enc C.prog fn (OpenSpec.ofChange s) apart (w.forCall tape i).memory i.args) ∧ a.holds C.prog (lone (Frame.enter C.prog f i.args .normal) [] (w.forCall tape i)))
    (contract : ∀ (W : World) (base : Nat) (args : Array Value) (ds gs : List (DataW H)) (before : List MemPlace),
      (∀ (j : Nat) t v, fn.params[j]? = some t → args[j]? = some v → Value.okWide C.prog W .any base t v) →
      DataW.Whole enc C.prog fn.params.toList s.vars apart W args.toList ds gs before →
      conds.all (PathCond.test C.prog ⟨fn.params.toList, ds, s.plain.varTypes C.prog, gs⟩) = true →
      (DataW.weightsEach C.prog (fn.params.toList ++ s.plain.varTypes C.prog) (ds ++ gs)).all (· ≤ reachBytes) = true → X W args → W.ShapedOpen C.prog →
      a.holds C.prog (lone (Frame.enter C.prog f args .normal) [] W) →
      Calls C.prog f args W fun e W' => ∃ v, e = .returned v ∧ s.post enc C.prog fn apart fresh handsOn again W args v W') :
    ReturnsInHanded a C os f .any (fun w args => (s.pre enc C.prog fn conds apart w args ∧ X w args) ∧ sizedMet enc C.prog fn (OpenSpec.ofChange s) apart w args) (s.post enc C.prog fn apart fresh handsOn again) := by
  refine returnsInHanded_of_calls own started noInit witness ?_
  intro w tape i _ hsh _ hok hpre hholds
  obtain ⟨_, _, _, fn', hfn', _, _, _, _, hval⟩ := hok
  have e : fn' = fn := Option.some.inj (hfn'.symm.trans hfn)
  subst e
  obtain ⟨⟨⟨ds, gs, before, hw, hc⟩, hx⟩, hz⟩ := hpre
  have hw' := DataW.Whole.of_heap (w' := w.forCall tape i) (by rfl) hw
  refine (contract (w.forCall tape i) w.heap.size i.args ds gs before hval hw' hc (hz.weights hw) (hX _ _ _ (by rfl) hx) hsh hholds).mono fun e W' ⟨v, he, hp⟩ => ?_
  subst he
  exact ChangeSpec.post_blind hp
end Go.Proofs.YtpanoplcamdnkaaGreatDoor

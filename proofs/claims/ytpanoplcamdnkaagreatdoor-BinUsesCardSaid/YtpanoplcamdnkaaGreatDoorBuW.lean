/- Walk of the law BinUses. Condition: the sentinels and the library's tables lie as the text lays them (UseW). -/
import Derived.Test.YtpanoplcamdnkaaGreatDoorBfR
import Derived.Test.YtpanoplcamdnkaaGreatDoorBfT
import Derived.Test.YtpanoplcamdnkaaGreatDoorBaA
import Derived.Test.YtpanoplcamdnkaaGreatDoorBin2
import Derived.Test.YtpanoplcamdnkaaGreatDoorPlainI
import Derived.Test.YtpanoplcamdnkaaGreatDoorErrV
namespace Go.Proofs.YtpanoplcamdnkaaGreatDoor
open Go.RowKit Go.Lib

theorem ActRd.belowU {w w' : World} {B : Nat} {v : Value} {l : List ActB} (h : ActRd w B v l) (hb : Below B w w') : ActRd w' B v l := by
  obtain ⟨A, c, hv, hc, hx⟩ := h
  refine ⟨A, c, hv, hc, fun h0 => ?_⟩
  obtain ⟨g, o, hA, hg, hcell⟩ := hx h0
  exact ⟨g, o, hA, hg, fun k hk => by
    obtain ⟨c0, c1, c2, c3⟩ := hcell k hk
    exact ⟨(hb.cell (p := ⟨g, o + (k * 4 + 0), none⟩) hg).trans c0, (hb.cell (p := ⟨g, o + (k * 4 + 1), none⟩) hg).trans c1, (hb.cell (p := ⟨g, o + (k * 4 + 2), none⟩) hg).trans c2, (hb.cell (p := ⟨g, o + (k * 4 + 3), none⟩) hg).trans c3⟩⟩
theorem putB_err {s : Bytes} {L : HldL} (h : (putB s L).2.2.2 ≠ 0) : (putB s L).1 = L := by
  unfold putB at h ⊢
  split
  · rfl
  · next hr =>
    rw [if_neg hr] at h
    split
    · next o hg =>
      rw [hg] at h
      simp only at h
      split
      · rfl
      · next ht => rw [if_neg ht] at h; exact absurd rfl h
    · next hg =>
      rw [hg] at h
      simp only at h
      split
      · rfl
      · next hl => rw [if_neg hl] at h; exact absurd rfl h
/-- rows of two types are apart -/
theorem rows_apart {w : World} {B1 B2 n1 n2 s1 s2 : Nat} {e1 e2 : TypeId} {v1 v2 : Value} {x1 x2 : List Value} (h1 : w.ownsRow B1 e1 s1 v1 n1 x1) (h2 : w.ownsRow B2 e2 s2 v2 n2 x2) (he : e1 ≠ e2) : v2.ownBlock = none ∨ v2.ownBlock ≠ v1.ownBlock := by
  rcases h2.2 with ⟨rfl, _⟩ | ⟨g, cap, cur, rfl, _, hg, _⟩
  · exact .inl rfl
  · right
    rcases h1.2 with ⟨rfl, _⟩ | ⟨g', cap', cur', rfl, _, hg', _⟩
    · intro e; cases e
    · intro e
      injection e with e
      have e' : g = g' := e
      subst e'
      rw [hg] at hg'
      injection hg' with hg'
      injection hg' with _ hg' _
      exact he hg'.symm

abbrev useKs : List Nat := [0, 1, 4, 6, 7, 8, 9, 10]
structure UseW (a : Nat → Addr) (w : World) : Prop where
  s : SomeS useKs a w
  t : Tabs w
  m : MaxL w
  p : Perrs w
theorem UseW.below {a : Nat → Addr} {w w' : World} (h : UseW a w) (hb : Below w.heap.size w w') : UseW a w' := ⟨h.s.below hb, h.t.below hb, h.m.below hb, h.p.below hb⟩
theorem UseW.someS {a : Nat → Addr} {w : World} (h : UseW a w) (ks : List Nat) (hk : ∀ k ∈ ks, k ∈ useKs) : SomeS ks a w := fun k hm => h.s k (hk k hm)
theorem bs_listU (l : Bytes) : (bs l).toList = l := by rw [ByteArray.toList_eq, bs_toList]
theorem info_stringU : (Tryz.prog.info? 9).map (fun i => (i.zero, i.size, i.bytes)) = some (some (.string ByteArray.empty), 1, 16) := by kernel_rfl
theorem short_lenU {l : List ActB} (h : longActsB l = false) : l.length ≤ 80 := by
  unfold longActsB at h
  rw [Bool.or_eq_false_iff, decide_eq_false_iff_not] at h
  omega
theorem short_sU {l : List ActB} (h : longActsB l = false) : ∀ x ∈ l, x.s.length ≤ 100 := fun x hx => by
  unfold longActsB at h
  rw [Bool.or_eq_false_iff] at h
  have := List.any_eq_false.1 h.2 x hx
  unfold longAct at this
  simp at this
  omega
theorem cell_oneU (w : World) (o : Obj) (x : Value) (t : TypeId) : ∀ j q, [x][j]? = some q → ((w.alloc o).alloc (.cells #[x] t)).cell? ((⟨w.heap.size + 1, 0, none⟩ : Addr).add j) = some q := by
  intro j q hj
  rw [add_eqM, Nat.zero_add, World.cell?_alloc_at _ _ _ _ (by simp)]
  match j, hj with
  | 0, hj => exact hj
  | j + 1, hj => simp at hj
theorem own_ltU {w : World} {base n size g : Nat} {e : TypeId} {v : Value} {xs : List Value} (h : w.ownsRow base e size v n xs) (hg : v.ownBlock = some g) : g < w.heap.size := by
  rcases h.2 with ⟨rfl, _⟩ | ⟨g', cap, cur, rfl, _, hh, _⟩
  · cases hg
  · injection hg with hg
    have hg : g' = g := hg
    subst hg
    exact (Array.getElem?_eq_some_iff.1 hh).1
theorem own_gbU {w w' : World} {base n size : Nat} {r : Option Nat} {e : TypeId} {v : Value} {xs : List Value} (h : w.ownsRow base e size v n xs) (hg : w.grownBy w' r) (hne : ∀ g, v.ownBlock = some g → r ≠ some g) : w'.ownsRow base e size v n xs := by
  refine ⟨h.1, ?_⟩
  rcases h.2 with h1 | ⟨g, cap, cur, hv, hgb, hh, h3⟩
  · exact .inl h1
  · exact .inr ⟨g, cap, cur, hv, hgb, (hg.block g (Array.getElem?_eq_some_iff.1 hh).1 (fun e => hne g (by rw [hv]; rfl) e.symm)).trans hh, h3⟩
/-- the bin and the two rows, apart from one another -/
structure BuMem (B0 base b mb : Nat) (v5 v6 : Value) (L : HldL) (T5 : List Bytes) (T6 : IdL) (w0 w : World) : Prop where
  b0 : B0 ≤ b
  m0 : B0 ≤ mb
  bb : b < base
  mm : mb < base
  sz : base ≤ w.heap.size
  bin : OBin b mb L w
  r5 : w.ownsRow base 9 1 v5 T5.length (T5.map VT)
  r6 : w.ownsRow base 47 2 v6 T6.length (idRow T6)
  bel : Below B0 w0 w
theorem BuMem.bz {B0 base b mb : Nat} {v5 v6 : Value} {L : HldL} {T5 : List Bytes} {T6 : IdL} {w0 w : World} (h : BuMem B0 base b mb v5 v6 L T5 T6 w0 w) : B0 ≤ w.heap.size := by
  have := h.b0; have := h.bb; have := h.sz; omega
theorem gb_box2U {w w' : World} {d : Nat} {x y : Value} {r : Option Nat} (h : w.grownBy w' r) (hne : some d ≠ r) (hx : Box2 d x y w) : Box2 d x y w' :=
  ⟨(h.cell_far ⟨d, 0, none⟩ hx.lt hne).trans hx.c0, (h.cell_far ⟨d, 1, none⟩ hx.lt hne).trans hx.c1, (h.frozen_far ⟨d, 0, none⟩ hx.lt hne).trans hx.f0, (h.frozen_far ⟨d, 1, none⟩ hx.lt hne).trans hx.f1⟩
theorem BuMem.below {B0 base b mb : Nat} {v5 v6 : Value} {L : HldL} {T5 : List Bytes} {T6 : IdL} {w0 w w' : World} (h : BuMem B0 base b mb v5 v6 L T5 T6 w0 w) (hb : Below w.heap.size w w') : BuMem B0 base b mb v5 v6 L T5 T6 w0 w' :=
  ⟨h.b0, h.m0, h.bb, h.mm, Nat.le_trans h.sz hb.size, h.bin.below hb, own_belowI h.r5 hb, own_belowI h.r6 hb, h.bel.trans (hb.mono h.bz)⟩
theorem BuMem.step {B0 base b mb : Nat} {v5 v6 : Value} {L L' : HldL} {T5 : List Bytes} {T6 : IdL} {w0 w w' : World} (h : BuMem B0 base b mb v5 v6 L T5 T6 w0 w) (ho : OBin b mb L' w') (hg : w.grownBy w' (some mb)) : BuMem B0 base b mb v5 v6 L' T5 T6 w0 w' := by
  refine ⟨h.b0, h.m0, h.bb, h.mm, Nat.le_trans h.sz hg.size, ho, own_gbU h.r5 hg (fun g e he => ?_), own_gbU h.r6 hg (fun g e he => ?_), below_gb h.bel h.bz hg h.m0⟩
  · injection he with he; have := own_ge h.r5 e; have := h.mm; omega
  · injection he with he; have := own_ge h.r6 e; have := h.mm; omega
theorem BuMem.app5 {B0 base b mb : Nat} {v5 v6 v' : Value} {L : HldL} {T5 : List Bytes} {T6 : IdL} {X : Bytes} {w0 w w' : World} (h : BuMem B0 base b mb v5 v6 L T5 T6 w0 w) (ho : w'.ownsRow base 9 1 v' (T5.length + 1) (T5.map VT ++ [.string (bs X)])) (hg : w.grownBy w' v5.ownBlock) : BuMem B0 base b mb v' v6 L (T5 ++ [X]) T6 w0 w' := by
  refine ⟨h.b0, h.m0, h.bb, h.mm, Nat.le_trans h.sz hg.size, h.bin.grown hg (own_far h.r5 h.bb) (own_far h.r5 h.mm), by rw [List.length_append, List.map_append]; exact ho, own_gbU h.r6 hg (fun g e he => ?_), h.bel.grown hg h.bz (fun g e => by have := own_ge h.r5 e; have := h.bb; have := h.b0; omega)⟩
  rcases rows_apart h.r5 h.r6 (by decide) with h0 | h0
  · rw [h0] at e; cases e
  · exact h0 (e.trans he.symm)
theorem BuMem.app6 {B0 base b mb : Nat} {v5 v6 v' : Value} {L : HldL} {T5 : List Bytes} {T6 : IdL} {x : Idn} {w0 w w' : World} (h : BuMem B0 base b mb v5 v6 L T5 T6 w0 w) (ho : w'.ownsRow base 47 2 v' (T6.length + 1) (idRow T6 ++ [.int .u32 (x.1 : Int), .int .i64 x.2])) (hg : w.grownBy w' v6.ownBlock) : BuMem B0 base b mb v5 v' L T5 (T6 ++ [x]) w0 w' := by
  refine ⟨h.b0, h.m0, h.bb, h.mm, Nat.le_trans h.sz hg.size, h.bin.grown hg (own_far h.r6 h.bb) (own_far h.r6 h.mm), own_gbU h.r5 hg (fun g e he => ?_), by rw [List.length_append, idRow_snoc]; exact ho, h.bel.grown hg h.bz (fun g e => by have := own_ge h.r6 e; have := h.bb; have := h.b0; omega)⟩
  rcases rows_apart h.r6 h.r5 (by decide) with h0 | h0
  · rw [h0] at e; cases e
  · exact h0 (e.trans he.symm)
theorem UseSt.res {n : Int} {L : HldL} {texts : List Bytes} (h : UseSt n L texts) {t : Bytes} (ht : t ∈ texts) : getRes L (idOf t) = (t, 0) := by
  obtain ⟨o, ho, hot⟩ := h.text t ht
  unfold getRes
  rw [ho, ← hot]
theorem BnGet_asU (a : Nat → Addr) (b mb : Nat) (L : HldL) (hL : ∀ y ∈ L, IdOk y.id) (x : Idn) (hx : IdOk x) (t : Bytes) (c : Int) (hg : getRes L x = (t, c)) (w : World) (hB : OBin b mb L w) (hs : SomeS [4] a w) :
    Calls Tryz.prog 23 #[.pointer (some ⟨b, 0, none⟩), idV x] w fun e w' => ∃ r, e = .returned (.tuple #[VT t, r]) ∧ EV a r c (-1) w' ∧ Below w.heap.size w w' := by
  have := BnGet_any a b mb L hL x hx w hB hs
  rw [hg] at this
  exact this
theorem BuMem.form5 {B0 base b mb : Nat} {v5 v6 : Value} {L : HldL} {T5 : List Bytes} {T6 : IdL} {w0 w : World} (h : BuMem B0 base b mb v5 v6 L T5 T6 w0 w) : ∃ A c, v5 = .slice A T5.length c := own_formI h.r5
theorem BuMem.some5 {B0 base b mb c n : Nat} {A : Option Addr} {v6 : Value} {L : HldL} {T5 : List Bytes} {T6 : IdL} {w0 w : World} (h : BuMem B0 base b mb (.slice A n c) v6 L T5 T6 w0 w) (h0 : 0 < T5.length) : ∃ g, A = some ⟨g, 0, none⟩ ∧ T5.length ≤ c := by
  obtain ⟨A', c', hv, hc, hx⟩ := own_rdI h.r5
  injection hv with h1 h2 h3
  subst h1; subst h3
  obtain ⟨g, hA, _⟩ := hx h0
  exact ⟨g, hA, hc⟩
theorem BuMem.at5 {B0 base b mb c n g : Nat} {v6 : Value} {L : HldL} {T5 : List Bytes} {T6 : IdL} {w0 w : World} (h : BuMem B0 base b mb (.slice (some ⟨g, 0, none⟩) n c) v6 L T5 T6 w0 w) (j : Nat) (hj : j < T5.length) : w.cell? ⟨g, j, none⟩ = some (.string (bs T5[j])) := by
  obtain ⟨A', c', hv, _, hx⟩ := own_rdI h.r5
  injection hv with h1 h2 h3
  subst h1
  obtain ⟨g', hA, _, _, hc⟩ := hx (by omega)
  injection hA with hA
  injection hA with hA
  subst hA
  exact hc j _ (by rw [List.getElem?_map, List.getElem?_eq_getElem hj]; rfl)
theorem BuMem.some6 {B0 base b mb c n : Nat} {A : Option Addr} {v5 : Value} {L : HldL} {T5 : List Bytes} {T6 : IdL} {w0 w : World} (h : BuMem B0 base b mb v5 (.slice A n c) L T5 T6 w0 w) (h0 : 0 < T6.length) : ∃ g o, A = some ⟨g, o, none⟩ ∧ T6.length ≤ c := by
  obtain ⟨A', c', hv, hc, hx⟩ := (RdI.own h.r6 rfl).form
  injection hv with h1 h2 h3
  subst h1; subst h3
  obtain ⟨g, o, hA, _⟩ := hx h0
  exact ⟨g, o, hA, hc⟩
theorem BuMem.at6 {B0 base b mb c n g o : Nat} {v5 : Value} {L : HldL} {T5 : List Bytes} {T6 : IdL} {w0 w : World} (h : BuMem B0 base b mb v5 (.slice (some ⟨g, o, none⟩) n c) L T5 T6 w0 w) (j : Nat) (x : Idn) (hj : T6[j]? = some x) : w.cell? ⟨g, o + j * 2, none⟩ = some (.int .u32 (x.1 : Int)) ∧ w.cell? ⟨g, o + j * 2 + 1, none⟩ = some (.int .i64 x.2) := by
  obtain ⟨hj1, hj2⟩ := List.getElem?_eq_some_iff.1 hj
  obtain ⟨A', c', hv, _, hx⟩ := (RdI.own h.r6 rfl).form
  injection hv with h1 h2 h3
  subst h1
  obtain ⟨g', o', hA, _, hc⟩ := hx (by omega)
  injection hA with hA
  injection hA with hA hB
  subst hA; subst hB; subst hj2
  exact hc j hj1
theorem lat_next {I : IdL} {i m : Nat} {x : Idn} (hm : m < I.length) (h1 : i + 1 ≤ m) : ((I.drop (i + 1)).take (m + 1 - (i + 1))).contains x = (((I.drop (i + 1)).take (m - (i + 1))).contains x || decide (I[m] = x)) := by
  rw [show m + 1 - (i + 1) = (m - (i + 1)) + 1 by omega, List.take_succ_eq_append_getElem (by rw [List.length_drop]; omega)]
  have e : (I.drop (i + 1))[m - (i + 1)]'(by rw [List.length_drop]; omega) = I[m] := by
    rw [List.getElem_drop]; congr 1; omega
  rw [e, Bool.eq_iff_iff, Bool.or_eq_true, List.contains_iff_mem, List.contains_iff_mem, List.mem_append, List.mem_singleton, decide_eq_true_iff]
  exact ⟨fun h => h.imp id Eq.symm, fun h => h.imp id Eq.symm⟩
theorem getRes_yes {L : HldL} {x : Idn} (h : (getB L x).isSome = true) : ∃ t, getRes L x = (t, 0) := by
  obtain ⟨o, ho⟩ := Option.isSome_iff_exists.1 h
  exact ⟨o.text, by unfold getRes; rw [ho]⟩
theorem getRes_no {L : HldL} {x : Idn} (h : (getB L x).isSome = false) : getRes L x = ([], 5) := by
  unfold getRes
  cases hg : getB L x with
  | none => rfl
  | some o => rw [hg] at h; cases h
theorem idok_of {t : Bytes} (ht : t.length ≤ 1000) : IdOk (idOf t) := ⟨prOf_lt _, by show (-9223372036854775808 : Int) ≤ ((t.length : Nat) : Int); omega, by show ((t.length : Nat) : Int) ≤ _; omega⟩
set_option maxRecDepth 100000 in
theorem BinUses_long (a : Nat → Addr) (v : Value) (l : List ActB) (hl : l.length ≤ maxLen) (hz : ∀ x ∈ l, x.kind.length ≤ maxLen ∧ x.s.length ≤ maxLen) (hlong : longActsB l = true) (w : World) (hv : ActRd w w.heap.size v l) (h : UseW a w) :
    Calls Tryz.prog 4 #[v] w fun e w' => e = .returned (.bool true) ∧ Below w.heap.size w w' := by
  have HB := Lib.hid (binned_any a w (h.someS _ (by decide)))
  have HLA := Lib.hid (fun w1 (hb : Below w.heap.size w w1) => longActs_any v l hl hz _ w1 (hv.belowU hb))
  have HLG := Lib.hid hlong
  clear h hv hlong
  go_enter Tryz.func4, Tryz.ntmps4
  go_wp2_with fail
  refine HB.out.mono ?_
  rintro e w1 ⟨rfl, hb1⟩
  go_wp2_with fail
  refine (HLA.out w1 hb1).mono ?_
  rintro e w2 ⟨rfl, hw⟩
  rw [HLG.out]
  have HB1 : Hid (Below w.heap.size w w2) := Lib.hid (by rw [← hw]; exact hb1)
  clear hw
  go_wp2
  go_ret
  exact ⟨rfl, HB1.out⟩
set_option maxRecDepth 100000 in
set_option maxHeartbeats 8000000 in
theorem BinUses_main (a : Nat → Addr) (v : Value) (l : List ActB) (hl : l.length ≤ maxLen) (hz : ∀ x ∈ l, x.kind.length ≤ maxLen ∧ x.s.length ≤ maxLen) (hlong : longActsB l = false) (w : World) (hv : ActRd w w.heap.size v l) (h : UseW a w) :
    Calls Tryz.prog 4 #[v] w fun e w' => e = .returned (.bool true) ∧ Below w.heap.size w w' := by
  have HBI := Lib.hid (binned_any a w (h.someS _ (by decide)))
  have HLA := Lib.hid (fun w1 (hb : Below w.heap.size w w1) => longActs_any v l hl hz _ w1 (hv.belowU hb))
  have HLG := Lib.hid hlong
  have H := Lib.hid h
  have h80 := short_lenU hlong
  have HS100 := Lib.hid (short_sU hlong)
  obtain ⟨i0, hi, hz0, hz1, hz2⟩ := info_parts info_stringU
  obtain ⟨i1, gi, gz0, gz1, gz2⟩ := info_parts info_idI
  obtain ⟨A, c, rfl, hlc, hx⟩ := hv
  have HX := Lib.hid hx
  clear h hx hlong hz
  go_enter Tryz.func4, Tryz.ntmps4
  go_wp2_with fail
  refine HBI.out.mono ?_
  rintro e w1 ⟨rfl, hb1⟩
  go_wp2_with fail
  refine (HLA.out w1 hb1).mono ?_
  rintro e w1' ⟨rfl, rfl⟩
  rw [HLG.out]
  have HB1 := Lib.hid hb1
  clear hb1 HLA HBI
  go_wp2_with fail
  refine (BnNew_any w1).mono ?_
  rintro e w2 ⟨b, mb, rfl, ho, hb, hmb, hb2⟩
  have hs1 := HB1.out.size
  have HM2 : Hid (BuMem w.heap.size w2.heap.size b mb (.slice none 0 0) (.slice none 0 0) [] [] [] w w2) := Lib.hid
    ⟨by omega, by omega, ho.lt, ho.map.lt, Nat.le_refl _, ho, World.ownsRow_nil _ _ _ _, World.ownsRow_nil _ _ _ _, HB1.out.trans (hb2.mono hs1)⟩
  clear ho hb hmb hb2
  go_wp2
  generalize hbase : w2.heap.size = base at *
  clear hbase
  go_loopg [5, 6, 7] l.length (fun gh v5 v6 v7 wr => ∃ (k : Nat) (L : HldL) (T : List Bytes), v7 = .int .i64 k ∧ k ≤ l.length ∧ gh = l.length - k ∧ Hid (UseSt k L T) ∧ T.length ≤ k ∧ Hid (∀ t ∈ T, t.length ≤ 100) ∧ Hid (BuMem w.heap.size base b mb v5 v6 L T (T.map idOf) w wr))
  case atStart => exact ⟨0, [], [], rfl, Nat.zero_le _, rfl, Lib.hid (UseSt.nil _), Nat.zero_le _, Lib.hid (fun t ht => by cases ht), HM2⟩
  case round =>
    obtain ⟨k, L, T, rfl, hk, hgm, HU, hT, HT, HM⟩ := hrel
    by_cases hkl : k < l.length
    · obtain ⟨g, o, rfl, hg, hcells⟩ := HX.out (by omega)
      obtain ⟨c0, c1, _, _⟩ := hcells k hkl
      have b1 : (0 : Int) ≤ (k : Int) := by omega
      have b2 : (k : Int) < (l.length : Int) := by omega
      have hx100 := HS100.out l[k] (List.getElem_mem hkl)
      generalize l[k].kind = KD at *
      generalize l[k].s = X at *
      have HC0 : Hid (∀ w', Below w.heap.size w w' → w'.cell? ⟨g, o + k * 4, none⟩ = some (.string (bs KD))) := Lib.hid (fun w' hb => (hb.cell (p := ⟨g, o + k * 4, none⟩) hg).trans c0)
      have HC1 : Hid (∀ w', Below w.heap.size w w' → w'.cell? ⟨g, o + k * 4 + 1, none⟩ = some (.string (bs X))) := Lib.hid (fun w' hb => (hb.cell (p := ⟨g, o + k * 4 + 1, none⟩) hg).trans c1)
      have d0 := HC0.out wr HM.out.bel
      have d1 := HC1.out wr HM.out.bel
      clear hcells c0 c1
      by_cases k3 : KD = [115, 119, 101, 101, 112]
      · have k3i : ((bs KD).toList == [115, 119, 101, 101, 112]) = true := by rw [k3, bs_listU]; rfl
        have k1i : ((bs KD).toList == [112, 117, 116]) = false := by rw [k3, bs_listU]; rfl
        have k1j : ((bs KD).toList != [112, 117, 116]) = true := by rw [k3, bs_listU]; rfl
        clear k3
        go_wp2_with fail
        refine (BnSweep_any b mb L k HU.out.ok (by have := HU.out.len; omega) wr HM.out.bin).mono ?_
        rintro e w5 ⟨rfl, ho5, hg5⟩
        rw [HU.out.sweep] at ho5
        have HM5 := Lib.hid (HM.out.step ho5 hg5)
        have e0 := HC0.out w5 HM5.out.bel
        clear ho5 hg5
        go_wp2
        go_roundg (l.length - (k + 1))
        case measure => omega
        case rel => exact ⟨k + 1, L, T, by go_num, hkl, rfl, Lib.hid (HU.out.mono (by omega)), by omega, HT, HM5⟩
      · have k3i : ((bs KD).toList == [115, 119, 101, 101, 112]) = false := by rw [bs_listU]; exact beq_eq_false_iff_ne.2 k3
        by_cases k1 : KD = [112, 117, 116]
        · have k1i : ((bs KD).toList == [112, 117, 116]) = true := by rw [k1, bs_listU]; rfl
          have k1j : ((bs KD).toList != [112, 117, 116]) = false := by rw [k1, bs_listU]; rfl
          clear k1 k3
          have HPUT := Lib.hid (BnPut_any a b mb L k (by omega) HU.out.ok (by have := HU.out.len; omega) X (by omega) wr HM.out.bin ((H.out.below HM.out.bel).someS _ (by decide)))
          have HPE := Lib.hid (fun h => putB_err (s := X) (L := L) h)
          have HPO := Lib.hid (fun h => HU.out.put (by omega : (0 : Int) ≤ (k : Int)) (s := X) h)
          unfold PutPost at HPUT
          generalize putB X L = PB at *
          obtain ⟨L', x', q', c'⟩ := PB
          simp only at HPUT HPE HPO
          go_wp2_with fail
          refine HPUT.out.mono ?_
          rintro e w5 ⟨r5, rfl, hev5, ho5, hg5⟩
          have HM5 := Lib.hid (HM.out.step ho5 hg5)
          clear ho5 hg5
          have HM6 := Lib.hid (HM5.out.below ((Below.refl w5.heap.size w5).alloc (Nat.le_refl _) (.cells #[.int .u32 (x'.1 : Int), .int .i64 x'.2] 47)))
          have HX6 := Lib.hid (Box2.mk' w5 (.int .u32 (x'.1 : Int)) (.int .i64 x'.2) 47)
          have e1 := HC1.out _ HM6.out.bel
          by_cases hc : c' = 0
          · subst hc
            obtain ⟨hu, he⟩ := HPO.out rfl
            subst he
            obtain ⟨rfl, _⟩ := hev5.nil rfl
            have HU' := Lib.hid hu
            have hsz5 := HM5.out.sz
            clear hu hev5 HPO HPE HPUT
            have HNE : Hid (u6.ownBlock ≠ some w5.heap.size) := Lib.hid (fun e => absurd (own_ltU HM5.out.r6 e) (Nat.lt_irrefl _))
            go_wp2_with (first | (at_builtin; refine wpList_append_own _ rfl _ _ 27 rfl base 9 i0 (.string ByteArray.empty) 1 16 Tryz.underlying27 hi hz0 hz1 hz2 rfl (by decide) _ _ _ rfl (HM6.out.r5.alloc _) ⟨w5.heap.size + 1, 0, none⟩ 1 1 [.string (bs X)] rfl rfl (cell_oneU _ _ _ _) (by simp [Value.oneCell']) (by unfold maxLen; omega) (by omega) (by simp; omega) ?_; intro v7 w7 ho7 hg7 _; obtain ⟨A7, c7, rfl⟩ := own_formI ho7; have HX7 := Lib.hid (gb_box2U hg7 (fun e => absurd (own_ltU HM5.out.r5 e.symm) (Nat.lt_irrefl _)) (HX6.out.below ((Below.refl _ _).alloc (Nat.le_refl _) _) HX6.out.lt)); obtain ⟨y0, y1, _, _⟩ := HX7.out; have HM7 := Lib.hid ((HM6.out.below ((Below.refl _ _).alloc (Nat.le_refl _) (.cells #[.string (bs X)] 9))).app5 ho7 hg7); have hsz7 := HM7.out.sz; have hlt7 : w5.heap.size < w7.heap.size := HX7.out.lt; clear ho7 hg7) | (at_builtin; refine wpList_append_own _ rfl _ _ 44 rfl base 47 i1 (.agg #[.int .u32 0, .int .i64 0]) 2 16 Tryz.underlying44 gi gz0 gz1 gz2 rfl (by decide) _ _ _ rfl (by have := HM7.out.r6.alloc (.cells #[.int .u32 ((idOf X).1 : Int), .int .i64 (idOf X).2] 47); rw [List.length_map] at this; exact this) ⟨w7.heap.size, 0, none⟩ 1 1 [.int .u32 ((idOf X).1 : Int), .int .i64 (idOf X).2] rfl rfl (cell_newI _ _ _ _) (by simp [Value.oneCell']) (by unfold maxLen; omega) (by omega) (by simp; omega) ?_; intro v8 w8 ho8 hg8 _; obtain ⟨A8, c8, rfl⟩ := own_formI ho8; have HX8 := Lib.hid (gb_box2U hg8 (fun e => HNE.out e.symm) (HX7.out.below ((Below.refl _ _).alloc (Nat.le_refl _) _) HX7.out.lt)); obtain ⟨z0, z1, _, _⟩ := HX8.out; have HM8 := Lib.hid ((HM7.out.below ((Below.refl _ _).alloc (Nat.le_refl _) (.cells #[.int .u32 ((idOf X).1 : Int), .int .i64 (idOf X).2] 47))).app6 (by rw [List.length_map]; exact ho8) hg8); clear ho8 hg8))
            refine (BnGet_asU a b mb L' HU'.out.ok.idok (idOf X) (idok_of (by omega)) X 0 (HU'.out.res (by simp)) w8 HM8.out.bin ((H.out.below HM8.out.bel).someS _ (by decide))).mono ?_
            rintro e w9 ⟨r9, rfl, hev9, hb9⟩
            obtain ⟨rfl, _⟩ := hev9.nil rfl
            have HM9 := Lib.hid (HM8.out.below hb9)
            have HX9 := Lib.hid (HX8.out.below hb9 HX8.out.lt)
            have HIDC := Lib.hid (fun w' => ID_bs X (by unfold maxLen; omega) w')
            obtain ⟨t1, t2⟩ := idq_eqs (rfl : idOf X = idOf X)
            have HT' : Hid (∀ t ∈ T ++ [X], t.length ≤ 100) := Lib.hid (fun t ht => by
              rcases List.mem_append.1 ht with h | h
              · exact HT.out t h
              · rw [List.mem_singleton.1 h]; exact hx100)
            clear hev9 hb9 y0 y1 z0 z1
            go_wp2
            have hS0 : Below w9.heap.size w9 w9.drew := (Below.refl _ _).drew
            refine region_S (fun w' => Below w9.heap.size w9 w') 15 (by kernel_rfl) (by kernel_rfl) ?_
            refine take_S 0 rfl (by kernel_rfl) (by kernel_rfl) hS0 (fun w' hS => by go_simp; rfl) ?_
            refine take_S 1 rfl (by kernel_rfl) (by kernel_rfl) hS0 (fun w' hS => by go_simp; rfl) ?_
            refine take_S 2 rfl (by kernel_rfl) (by kernel_rfl) hS0 (fun w' hS => by go_simp; rfl) ?_
            refine take_S 3 rfl (by kernel_rfl) (by kernel_rfl) hS0 (fun w' hS => by go_simp; rfl) ?_
            refine take_S 4 rfl (by kernel_rfl) (by kernel_rfl) hS0 (fun w' hS => by go_simp; rfl) ?_
            refine take_S 5 rfl (by kernel_rfl) (by kernel_rfl) hS0 (fun w' hS => by go_simp; rfl) ?_
            refine take_S 6 rfl (by kernel_rfl) (by kernel_rfl) hS0 (fun w' hS => by go_simp; rfl) ?_
            refine take_S 7 rfl (by kernel_rfl) (by kernel_rfl) hS0 (fun w' hS => by go_simp; rfl) ?_
            refine take_S 8 rfl (by kernel_rfl) (by kernel_rfl) hS0 (fun w' hS => by have V1 := HC1.out w' (HM9.out.bel.trans (hS.mono HM9.out.bz)); go_simp; rfl) ?_
            refine take_S 9 (v := .bool false) rfl (by kernel_rfl) (by kernel_rfl) hS0 (fun w' hS => by have V2 := bne_self_eq_false (bs X).toList; go_simp) ?_
            refine take_S 10 rfl (by kernel_rfl) (by kernel_rfl) hS0 (fun w' hS => by go_simp; rfl) ?_
            refine take_S 11 rfl (by kernel_rfl) (by kernel_rfl) hS0 (fun w' hS => by go_simp; rfl) ?_
            refine take_S 12 rfl (by kernel_rfl) (by kernel_rfl) hS0 (fun w' hS => by obtain ⟨z0, z1, _, _⟩ := HX9.out.below hS HX9.out.lt; go_simp; rfl) ?_
            refine take_S 13 rfl (by kernel_rfl) (by kernel_rfl) hS0 (fun w' hS => by go_simp; rfl) ?_
            refine carry_S 14 rfl (by kernel_rfl) (by decide) (by kernel_rfl) (fun K hK => ?_)
            go_simp
            refine (HIDC.out _).mono ?_
            rintro e w10 ⟨rfl, hbw10⟩
            have hS1 : Below w9.heap.size w9 w10 := hS0.trans (hbw10.mono hS0.size)
            refine hK _ _ hS1 (forced_S (by kernel_rfl) ?_)
            clear hK K
            try simp only [Act.put, List.getElem_toArray, List.getElem_cons_succ, List.getElem_cons_zero, List.setIfInBounds_toArray, List.set_cons_zero, List.set_cons_succ]
            try simp only [Act.put, List.getElem_toArray, List.getElem_cons_succ, List.getElem_cons_zero, List.setIfInBounds_toArray, List.set_cons_zero, List.set_cons_succ]
            simp only [List.drop_succ_cons, List.drop_zero]
            have HM10 := Lib.hid (HM9.out.below hS1)
            clear hS0 hS1 hbw10
            go_wp2
            go_roundg (l.length - (k + 1))
            case measure => omega
            case rel => exact ⟨k + 1, L', T ++ [X], by go_num, hkl, rfl, HU', by rw [List.length_append]; simp; omega, HT', Lib.hid (by rw [List.map_append]; exact HM10.out)⟩
          · have HLL := HPE.out hc
            subst HLL
            rcases hev5 with ⟨_, h0⟩ | ⟨k9, hk9, rfl, _⟩
            · exact absurd h0 hc
            · unfold sval
              clear HPO HPE HPUT hc
              go_wp2
              go_roundg (l.length - (k + 1))
              case measure => omega
              case rel => exact ⟨k + 1, _, T, by go_num, hkl, rfl, Lib.hid (HU.out.mono (by omega)), by omega, HT, HM6⟩
        · have k1i : ((bs KD).toList == [112, 117, 116]) = false := by rw [bs_listU]; exact beq_eq_false_iff_ne.2 k1
          have k1j : ((bs KD).toList != [112, 117, 116]) = true := by rw [bs_listU]; exact bne_iff_ne.2 k1
          clear k1 k3
          go_wp2
          go_roundg (l.length - (k + 1))
          case measure => omega
          case rel => exact ⟨k + 1, L, T, by go_num, hkl, rfl, Lib.hid (HU.out.mono (by omega)), by omega, HT, HM⟩
    · obtain rfl : k = l.length := by omega
      obtain ⟨A5, c5, hv5⟩ := HM.out.form5
      subst hv5
      obtain ⟨A6, c6, hv6⟩ : ∃ A c, u6 = .slice A T.length c := by have := own_formI HM.out.r6; rw [List.length_map] at this; exact this
      subst hv6
      have HBO : Hid (BinOk 999999 L) := Lib.hid (HU.out.ok.mono (by omega))
      have HHW : Hid (∀ x ∈ L, HldW x ∧ x.text.length ≤ 100000) := Lib.hid (fun x hx => by
        have h1 := HBO.out.all x hx
        have h2 := h1.uses
        have h3 := h1.len
        exact ⟨⟨h1.idok, by omega, by omega⟩, by omega⟩)
      have HLL := HU.out.len
      go_wp2_with fail
      refine (BnAll_any b mb L _ HBO.out (by omega) wr HM.out.bin).mono ?_
      rintro e w3 ⟨v12, rfl, ho12, hb3⟩
      have HM3 := Lib.hid (HM.out.below hb3)
      obtain ⟨A12, c12, rfl⟩ := own_formI ho12
      have HO12 := Lib.hid ho12
      clear ho12 hb3
      go_wp2_with fail
      refine (BnText_any (.slice A12 L.length c12) L HHW.out (by omega) w3.heap.size w3 (RdL.own HO12.out) (Nat.le_refl _) (H.out.below HM3.out.bel).t).mono ?_
      rintro e w4 ⟨rfl, hb4⟩
      have HM4 := Lib.hid (HM3.out.below hb4)
      have HO4 := Lib.hid (own_belowI HO12.out hb4)
      have HF4 := Lib.hid (H.out.below HM4.out.bel)
      have HRD := Lib.hid (BnReadF_any a (textF L) (by have := textF_length HBO.out.all; omega) w4 HF4.out.t HF4.out.m HF4.out.p (HF4.out.someS _ (by decide)))
      unfold ReadPost at HRD
      rw [readHF_text HBO.out (by omega)] at HRD
      simp only at HRD
      clear hb4
      go_wp2_with fail
      refine HRD.out.mono ?_
      rintro e w5 ⟨v13, r14, rfl, hev, ho13, hb5⟩
      obtain ⟨rfl, _⟩ := hev.nil rfl
      obtain ⟨A13, c13, rfl⟩ := own_formI ho13
      have HM5 := Lib.hid (HM4.out.below hb5)
      have HSH := Lib.hid (SameHelds_same (.slice A13 L.length c13) (.slice A12 L.length c12) L (by omega) w5.heap.size w5 (RdL.own ho13).two (RdL.own (own_belowI HO4.out hb5)).two (Nat.le_refl _))
      clear hev ho13 hb5
      go_wp2_with fail
      refine HSH.out.mono ?_
      rintro e w6 ⟨rfl, hb6⟩
      have HM6 := Lib.hid (HM5.out.below hb6)
      clear hb6
      go_wp2
      go_loopg [15] T.length (fun gh v15 wq => ∃ (i : Nat) (Lq : HldL), v15 = .int .i64 i ∧ i ≤ T.length ∧ gh = T.length - i ∧ Hid (UseSt l.length Lq (T.drop i)) ∧ Hid (BuMem w.heap.size base b mb (.slice A5 T.length c5) (.slice A6 T.length c6) Lq T (T.map idOf) w wq))
      case atStart => exact ⟨0, L, rfl, Nat.zero_le _, rfl, HU, HM6⟩
      case round =>
        obtain ⟨i, Lq, rfl, hit, hgq, HUq, HMq⟩ := hrel
        by_cases hil : i < T.length
        · obtain ⟨g5, rfl, hc5⟩ := HMq.out.some5 (by omega)
          obtain ⟨g6, o6, rfl, hc6⟩ := HMq.out.some6 (by rw [List.length_map]; omega)
          rw [List.length_map] at hc6
          have b3 : (0 : Int) ≤ (i : Int) := by omega
          have b4 : (i : Int) < (T.length : Int) := by omega
          have hdr : T.drop i = T[i] :: T.drop (i + 1) := List.drop_eq_getElem_cons hil
          have hti := HT.out T[i] (List.getElem_mem hil)
          have hidi : (T.map idOf)[i]? = some (idOf T[i]) := by rw [List.getElem?_map, List.getElem?_eq_getElem hil]; rfl
          have HA5 : Hid (∀ L' w', BuMem w.heap.size base b mb (.slice (some ⟨g5, 0, none⟩) T.length c5) (.slice (some ⟨g6, o6, none⟩) T.length c6) L' T (T.map idOf) w w' → w'.cell? ⟨g5, i, none⟩ = some (.string (bs T[i]))) := Lib.hid (fun _ _ h => h.at5 i hil)
          have HA6 : Hid (∀ L' w', BuMem w.heap.size base b mb (.slice (some ⟨g5, 0, none⟩) T.length c5) (.slice (some ⟨g6, o6, none⟩) T.length c6) L' T (T.map idOf) w w' → w'.cell? ⟨g6, o6 + i * 2, none⟩ = some (.int .u32 ((idOf T[i]).1 : Int)) ∧ w'.cell? ⟨g6, o6 + i * 2 + 1, none⟩ = some (.int .i64 (idOf T[i]).2)) := Lib.hid (fun _ _ h => h.at6 i _ hidi)
          have HUD := Lib.hid (HUq.out.ok)
          have HUR := Lib.hid (HUq.out.res (t := T[i]) (by rw [hdr]; exact List.mem_cons_self))
          have HUL := HUq.out.len
          rw [hdr] at HUq
          have HDR := Lib.hid HUq.out.drop
          have HLAT := Lib.hid (fun m (hm : m < T.length) (h1 : i + 1 ≤ m) => lat_next (I := T.map idOf) (i := i) (m := m) (x := idOf T[i]) (by rw [List.length_map]; exact hm) h1)
          have HIM : Hid (∀ m (hm : m < T.length), (T.map idOf)[m]? = some (idOf T[m])) := Lib.hid (fun m hm => by rw [List.getElem?_map, List.getElem?_eq_getElem hm]; rfl)
          generalize hx : T[i] = X at *
          clear hdr hidi HUq hx
          have hixX := idok_of (t := X) (by omega)
          obtain ⟨p0, p1⟩ := HA6.out Lq wr HMq.out
          have GETC := Lib.hid (BnGet_asU a b mb Lq HUD.out.idok (idOf X) hixX X 0 HUR.out wr HMq.out.bin ((H.out.below HMq.out.bel).someS _ (by decide)))
          go_wp2_with fail
          refine GETC.out.mono ?_
          rintro e w7 ⟨r7, rfl, hev7, hb7⟩
          obtain ⟨rfl, _⟩ := hev7.nil rfl
          have HM7 := Lib.hid (HMq.out.below hb7)
          have q0 := HA5.out Lq w7 HM7.out
          obtain ⟨q1, q2⟩ := HA6.out Lq w7 HM7.out
          have V2 := bne_self_eq_false (bs X).toList
          have DROPC := Lib.hid (BnDrop_any a b mb Lq l.length (by omega) HUD.out (by omega) (idOf X) hixX w7 HM7.out.bin ((H.out.below HM7.out.bel).someS _ (by decide)))
          unfold DropPost at DROPC
          generalize dropB (idOf X) Lq = DB at *
          obtain ⟨L1, d1⟩ := DB
          simp only at DROPC HDR
          obtain ⟨hd0, hok1, hlen1, hu2, hcon⟩ := HDR.out
          subst hd0
          have HOK1 := Lib.hid hok1
          have HU2 := Lib.hid hu2
          have HCON := Lib.hid hcon
          clear hev7 hb7 p0 p1 GETC HDR hok1 hu2 hcon
          go_wp2_with fail
          refine DROPC.out.mono ?_
          rintro e w8 ⟨r8, rfl, hev8, ho8, hg8⟩
          obtain ⟨rfl, _⟩ := hev8.nil rfl
          have HM8 := Lib.hid (HM7.out.step ho8 hg8)
          clear hev8 ho8 hg8 q0 q1 q2 DROPC
          go_wp2
          obtain ⟨lb, hlb0, hlbs, hlbe⟩ : ∃ lb : Nat → Bool, lb (i + 1) = false ∧ (∀ m (hm : m < T.length), i + 1 ≤ m → ∀ y, (T.map idOf)[m]? = some y → lb (m + 1) = (lb m || decide (y = idOf X))) ∧ lb T.length = ((T.drop (i + 1)).map idOf).contains (idOf X) := by
            refine ⟨fun m => (((T.map idOf).drop (i + 1)).take (m - (i + 1))).contains (idOf X), by simp, fun m hm h1 y hy => ?_, ?_⟩
            · show (((T.map idOf).drop (i + 1)).take (m + 1 - (i + 1))).contains (idOf X) = _
              rw [HLAT.out m hm h1]
              have h2 : (T.map idOf)[m]? = some ((T.map idOf)[m]'(by rw [List.length_map]; exact hm)) := List.getElem?_eq_getElem _
              rw [hy] at h2
              injection h2 with h2
              rw [h2]
            · show (((T.map idOf).drop (i + 1)).take (T.length - (i + 1))).contains (idOf X) = _
              rw [List.map_drop, List.take_of_length_le (by rw [List.length_drop, List.length_map]; omega)]
          have HLS := Lib.hid hlbs
          have HLE := Lib.hid hlbe
          clear hlbs hlbe HLAT
          obtain ⟨wy, hwy⟩ : ∃ x, x = w8 := ⟨_, rfl⟩
          subst hwy
          go_loopg [18, 19] (T.length - (i + 1)) (fun gh v18 v19 wz => ∃ m : Nat, v18 = .bool (lb m) ∧ v19 = .int .i64 m ∧ i + 1 ≤ m ∧ m ≤ T.length ∧ gh = T.length - m ∧ Hid (BuMem w.heap.size base b mb (.slice (some ⟨g5, 0, none⟩) T.length c5) (.slice (some ⟨g6, o6, none⟩) T.length c6) L1 T (T.map idOf) w wz))
          case atStart => exact ⟨i + 1, by rw [hlb0], by go_num, Nat.le_refl _, hil, rfl, HM8⟩
          case round =>
            obtain ⟨m, rfl, rfl, him, hmt, hgz, HMz⟩ := hrel
            by_cases hml : m < T.length
            · have b5 : (0 : Int) ≤ (m : Int) := by omega
              have b6 : (m : Int) < (T.length : Int) := by omega
              obtain ⟨q1, q2⟩ := HA6.out L1 wr HMz.out
              have hy := HIM.out m hml
              have HST := Lib.hid (HLS.out m hml him _ hy)
              obtain ⟨q3, q4⟩ := HMz.out.at6 m _ hy
              clear hy
              generalize idOf T[m] = y at *
              cases hb : lb m with
              | true =>
                rw [hb, Bool.true_or] at HST
                clear hb
                go_wp2
                go_quiet (fail)
                go_wp2
                go_roundg (T.length - (m + 1))
                case measure => omega
                case rel => exact ⟨m + 1, by rw [HST.out], by go_num, by omega, hml, rfl, Lib.hid (HMz.out.below (below_drewN (Below.refl _ _) _))⟩
              | false =>
                rw [hb, Bool.false_or] at HST
                clear hb
                by_cases hyx : y = idOf X
                · rw [decide_eq_true hyx] at HST
                  obtain ⟨t1, t2⟩ := idq_eqs hyx
                  clear hyx
                  go_wp2
                  go_quiet (fail)
                  go_wp2
                  go_roundg (T.length - (m + 1))
                  case measure => omega
                  case rel => exact ⟨m + 1, by rw [HST.out], by go_num, by omega, hml, rfl, Lib.hid (HMz.out.below (below_drewN (Below.refl _ _) _))⟩
                · rw [decide_eq_false hyx] at HST
                  rcases idq_ne hyx with t1 | ⟨t1, t2⟩
                  · clear hyx
                    go_wp2
                    go_quiet (fail)
                    go_wp2
                    go_roundg (T.length - (m + 1))
                    case measure => omega
                    case rel => exact ⟨m + 1, by rw [HST.out], by go_num, by omega, hml, rfl, Lib.hid (HMz.out.below (below_drewN (Below.refl _ _) _))⟩
                  · clear hyx
                    go_wp2
                    go_quiet (fail)
                    go_wp2
                    go_roundg (T.length - (m + 1))
                    case measure => omega
                    case rel => exact ⟨m + 1, by rw [HST.out], by go_num, by omega, hml, rfl, Lib.hid (HMz.out.below (below_drewN (Below.refl _ _) _))⟩
            · obtain rfl : m = T.length := by omega
              rw [HLE.out, ← HCON.out]
              have HSW := Lib.hid (BnSweep_any b mb L1 l.length HOK1.out (by omega) wr HMz.out.bin)
              go_wp2_with fail
              refine HSW.out.mono ?_
              rintro e w9 ⟨rfl, ho9, hg9⟩
              have HM9 := Lib.hid (HMz.out.step ho9 hg9)
              obtain ⟨q1, q2⟩ := HA6.out _ w9 HM9.out
              have HGL : Hid (∀ t c, getRes (sweepB L1) (idOf X) = (t, c) → _) := Lib.hid (fun t c h => BnGet_asU a b mb (sweepB L1) HU2.out.ok.idok (idOf X) hixX t c h w9 HM9.out.bin ((H.out.below HM9.out.bel).someS _ (by decide)))
              clear ho9 hg9 HSW
              cases hl : (getB (sweepB L1) (idOf X)).isSome with
              | true =>
                obtain ⟨t, ht⟩ := getRes_yes hl
                have HGC := Lib.hid (HGL.out t 0 ht)
                clear hl ht HGL
                go_wp2_with fail
                refine HGC.out.mono ?_
                rintro e w10 ⟨r10, rfl, hev, hb10⟩
                obtain ⟨rfl, _⟩ := hev.nil rfl
                have HM10 := Lib.hid (HM9.out.below hb10)
                clear hev hb10 q1 q2
                go_wp2
                go_roundg (T.length - (i + 1))
                case measure => omega
                case rel => exact ⟨i + 1, sweepB L1, by go_num, hil, rfl, HU2, HM10⟩
              | false =>
                have HGC := Lib.hid (HGL.out [] 5 (getRes_no hl))
                clear hl HGL
                go_wp2_with fail
                refine HGC.out.mono ?_
                rintro e w10 ⟨r10, rfl, hev, hb10⟩
                obtain ⟨ty, pv, rfl⟩ := hev.some (by decide)
                have HM10 := Lib.hid (HM9.out.below hb10)
                clear hev hb10 q1 q2
                go_wp2
                go_roundg (T.length - (i + 1))
                case measure => omega
                case rel => exact ⟨i + 1, sweepB L1, by go_num, hil, rfl, HU2, HM10⟩
        · obtain rfl : i = T.length := by omega
          rw [List.drop_length] at HUq
          obtain rfl := HUq.out.done
          have hsz0 : sizeB [] = 0 := rfl
          have SZC := Lib.hid (BnSize_any b mb [] 0 (BinOk.nil 0) (by decide) wr HMq.out.bin)
          rw [hsz0] at SZC
          go_wp2_with fail
          refine SZC.out.mono ?_
          rintro e w7 ⟨rfl, hb7⟩
          have HM7 := Lib.hid (HMq.out.below hb7)
          have ALC := Lib.hid (BnAll_any b mb [] 0 (BinOk.nil 0) (by decide) w7 HM7.out.bin)
          clear hb7 SZC
          go_wp2_with fail
          refine ALC.out.mono ?_
          rintro e w8 ⟨v8, rfl, ho8, hb8⟩
          obtain ⟨A8, c8, rfl⟩ := own_formI ho8
          have HM8 := Lib.hid (HM7.out.below hb8)
          clear ho8 hb8
          go_wp2
          go_ret
          exact ⟨rfl, HM8.out.bel⟩
theorem BinUses_walk (a : Nat → Addr) (v : Value) (l : List ActB) (hl : l.length ≤ maxLen) (hz : ∀ x ∈ l, x.kind.length ≤ maxLen ∧ x.s.length ≤ maxLen ∧ IdOk x.id) (w : World) (hv : ActRd w w.heap.size v l) (h : UseW a w) :
    Calls Tryz.prog 4 #[v] w fun e w' => e = .returned (.bool true) ∧ Below w.heap.size w w' := by
  cases hlong : longActsB l with
  | true => exact BinUses_long a v l hl (fun x hx => ⟨(hz x hx).1, (hz x hx).2.1⟩) hlong w hv h
  | false => exact BinUses_main a v l hl (fun x hx => ⟨(hz x hx).1, (hz x hx).2.1⟩) hlong w hv h
end Go.Proofs.YtpanoplcamdnkaaGreatDoor

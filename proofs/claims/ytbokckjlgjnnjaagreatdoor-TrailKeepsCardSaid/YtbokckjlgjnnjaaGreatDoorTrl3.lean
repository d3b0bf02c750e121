/- TrU, RcS, TrW in one text. Conditions: as each part says. -/
import Derived.Test.YtbokckjlgjnnjaaGreatDoorTrl2
import Derived.Test.YtbokckjlgjnnjaaGreatDoorIds
import Derived.Test.YtbokckjlgjnnjaaGreatDoorTrl1
/- Trails: walk of the reference's KeepOf. No conditions but bounds. -/
namespace Go.Proofs.YtbokckjlgjnnjaaGreatDoor
open Go.RowKit Go.Lib

/-- a row of the call's own that holds a trail whose IDs lie below block B -/
def OwB (w : World) (B base : Nat) (T : TypeId) (v : Value) (l : EntL) : Prop :=
  ∃ E : EntXL, E.map (·.1) = l ∧ w.ownsRow base T 5 v E.length (entRow E) ∧ ∀ x ∈ E, RdI w B x.2 x.1.r.ids
theorem OwB.nil (w : World) (B base : Nat) (T : TypeId) : OwB w B base T (.slice none 0 0) [] := ⟨[], rfl, World.ownsRow_nil _ _ _ _, fun _ h => absurd h List.not_mem_nil⟩
theorem OwB.below {w w' : World} {B base : Nat} {T : TypeId} {v : Value} {l : EntL} (h : OwB w B base T v l) (hb : Below w.heap.size w w') (hB : B ≤ w.heap.size) : OwB w' B base T v l := by
  obtain ⟨E, he, ho, hx⟩ := h
  exact ⟨E, he, own_belowI ho hb, fun x hm => (hx x hm).keep hb hB⟩
theorem OwB.gb {w w' : World} {B base d : Nat} {T : TypeId} {v : Value} {l : EntL} (h : OwB w B base T v l) (hg : w.grownBy w' (some d)) (hB : B ≤ w.heap.size) (h1 : B ≤ d) (h2 : d < base) : OwB w' B base T v l := by
  obtain ⟨E, he, ho, hx⟩ := h
  exact ⟨E, he, own_gbI ho hg h2, fun x hm => (hx x hm).keepG hg hB (fun g e => by injection e with e; subst e; exact (hx x hm).farI h1)⟩
theorem OwB.rd {w : World} {B base : Nat} {T : TypeId} {v : Value} {l : EntL} (h : OwB w B base T v l) (hB : B ≤ w.heap.size) : RdT w w.heap.size v l := by
  obtain ⟨E, he, ho, hx⟩ := h
  exact ⟨E, he, own_rdC ho, fun x hm => (hx x hm).more hB⟩
theorem OwB.slice {w : World} {B base : Nat} {T : TypeId} {v : Value} {l : EntL} (h : OwB w B base T v l) : ∃ A c, v = .slice A l.length c := by
  obtain ⟨E, rfl, ho, _⟩ := h
  have := own_formI ho
  simpa using this
theorem OwB.snoc {w w' : World} {B base n : Nat} {T : TypeId} {v v' : Value} {E : EntXL} {l : EntL} (he : E.map (·.1) = l) (ho : w.ownsRow base T 5 v n (entRow E)) (hn : n = E.length) (hx : ∀ x ∈ E, RdI w B x.2 x.1.r.ids) (hB : B ≤ base) (hw : B ≤ w.heap.size)
    {y : EntX} (hy : RdI w B y.2 y.1.r.ids) (ho' : w'.ownsRow base T 5 v' (n + 1) (entRow E ++ entCells y)) (hg : w.grownBy w' v.ownBlock) : OwB w' B base T v' (l ++ [y.1]) := by
  subst hn
  refine ⟨E ++ [y], by rw [List.map_append, he]; rfl, by rw [List.length_append, entRow_snoc]; exact ho', fun x hm => ?_⟩
  have hz : RdI w B x.2 x.1.r.ids := by
    rcases List.mem_append.1 hm with h | h
    · exact hx x h
    · rw [List.mem_singleton.1 h]; exact hy
  exact hz.keepG hg hw (fun g e => hz.farI (Nat.le_trans hB (own_ge ho e)))
def RKeepPost (l : EntL) (many : Int) (w : World) (e : Ending) (w' : World) : Prop :=
  ∃ v, e = .returned (.tuple #[v, fltV (keepRes l many).1]) ∧ RdT w' w'.heap.size v (keepRes l many).2 ∧ Below w.heap.size w w'
theorem keep_fault {l : EntL} {many : Int} (h : (trailFault l).1 ≠ 0) : keepRes l many = (trailFault l, []) := if_pos h
theorem keep_neg {l : EntL} {many : Int} (h : (trailFault l).1 = 0) (h2 : many < 0) : keepRes l many = ((2, -1), []) := (if_neg (not_not_intro h)).trans (if_pos h2)
theorem keep_ok {l : EntL} {many : Int} (h : (trailFault l).1 = 0) (h2 : ¬ many < 0) : keepRes l many = ((0, -1), keepL many l) := (if_neg (not_not_intro h)).trans (if_neg h2)
theorem keep_fin {l out : EntL} {many : Int} {w wf : World} {v : Value} (he : keepRes l many = ((0, -1), keepL many l)) (ho : out = keepL many l) (h : RdT wf wf.heap.size v out ∧ Below w.heap.size w wf) :
    RKeepPost l many w (.returned (.tuple #[v, fltV (0, -1)])) wf := ⟨_, by rw [he], by rw [he, ← ho]; exact h.1, h.2⟩
theorem bs_listW2 (l : Bytes) : (bs l).toList = l := by rw [ByteArray.toList_eq, bs_toList]
theorem cntN_drop {nm : Bytes} {l : EntL} {k : Nat} (h : k < l.length) : cntN nm (l.drop k) = (if nameE nm l[k] = true then 1 else 0) + cntN nm (l.drop (k + 1)) := by
  rw [List.drop_eq_getElem_cons h, cntN_cons]
theorem name_cmp (a b : Bytes) : ((bs a).toList == (bs b).toList) = (a == b) := by rw [bs_listW2, bs_listW2]
set_option maxRecDepth 100000 in
set_option maxHeartbeats 4000000 in
theorem RKeepOf_any (v : Value) (l : EntL) (many : Int) (hb : ∀ e ∈ l, RcpB e.r) (hl : l.length ≤ 1000000) (w : World) (hv : RdT w w.heap.size v l) :
    Calls Tryz.prog 24 #[v, .int .i64 many] w (RKeepPost l many w) := by
  obtain ⟨i0, hi, hz0, hz1, hz2⟩ := info_parts info_rent
  obtain ⟨A, c, hvA, hlc, S, hS, hx⟩ := hv.form
  subst hvA
  have hb0 : Below w.heap.size w (w.alloc (.cells #[.int .i64 0, .int .i64 0] 49)) := (Below.refl _ w).alloc (Nat.le_refl _) _
  have HD0 := Lib.hid (Box2.mk' w (.int .i64 0) (.int .i64 0) 49)
  have HB0 := Lib.hid hb0
  have HX := Lib.hid hx
  have HS := Lib.hid hS
  have TF := Lib.hid (RTFault_any _ l hb hl _ (RdT.more (hv.keep hb0 (Nat.le_refl _)) hb0.size))
  have hrg := trailFault_rng l
  clear hv hb0 hS hx
  go_enter Tryz.func24, Tryz.ntmps24
  go_wp2_with fail
  generalize hw0 : w.alloc (.cells #[.int .i64 0, .int .i64 0] 49) = w0 at *
  clear hw0
  refine TF.out.mono ?_
  rintro e w1 ⟨rfl, hb1⟩
  unfold fltV
  generalize hF : trailFault l = F at *
  have ha2 : Below w1.heap.size w1 (w1.alloc (.cells #[.int .i64 F.1, .int .i64 F.2] 49)) := (Below.refl _ w1).alloc (Nat.le_refl _) _
  have HB2 := Lib.hid ((HB0.out.trans (hb1.mono HB0.out.size)).trans (ha2.mono (HB0.out.trans (hb1.mono HB0.out.size)).size))
  have HD2 := Lib.hid ((HD0.out.below hb1 HD0.out.lt).below ha2 (Nat.lt_of_lt_of_le HD0.out.lt hb1.size))
  have HF2 := Lib.hid (Box2.mk' w1 (.int .i64 F.1) (.int .i64 F.2) 49)
  have hlt1 : w.heap.size < w1.heap.size := Nat.lt_of_lt_of_le HD0.out.lt hb1.size
  have hfl : w1.heap.size < (w1.alloc (.cells #[.int .i64 F.1, .int .i64 F.2] 49)).heap.size := HF2.out.lt
  clear hb1 ha2 TF
  obtain ⟨z0, z1, z2, z3⟩ := HD2.out
  obtain ⟨y0, y1, _, _⟩ := HF2.out
  by_cases h0 : F.1 = 0
  · have HFF := Lib.hid hF
    have hF2 : F = (0, -1) := by rw [← hF]; exact trailFault_two (by rw [hF]; exact h0)
    subst hF2
    simp only at HF2 HB2 HD2 z0 z1 z2 z3 y0 y1 hfl
    clear hF hrg h0
    by_cases hm : many < 0
    · have HE := Lib.hid (keep_neg (by rw [HFF.out]) hm)
      go_wp2_with fail
      refine (RBareF_any 2 _).mono ?_
      rintro e w3 ⟨rfl, hb3⟩
      have HB3 := Lib.hid (HB2.out.trans (hb3.mono HB2.out.size))
      have HD3 := Lib.hid (HD2.out.below hb3 HD2.out.lt)
      clear z0 z1 z2 z3 y0 y1 hb3
      obtain ⟨z0, z1, z2, z3⟩ := HD3.out
      obtain ⟨t0, t1, t2⟩ := HD3.out.rd (.int .i64 2) (.int .i64 (-1))
      go_wp2
      refine bodyPost_ret (v := .tuple #[.slice none 0 0, fltV (2, -1)]) (by simp [results, Tryz.results24, go_sem, t0, t1]) rfl ?_
      exact ⟨_, by rw [HE.out], by rw [HE.out]; exact RdT.nil _ _, below_set2 HB3.out (Nat.le_refl _) _ _⟩
    · have HE := Lib.hid (keep_ok (by rw [HFF.out]) hm)
      go_wp2
      generalize w1.alloc (.cells #[.int .i64 0, .int .i64 (-1)] 49) = w2 at *
      generalize w1.heap.size = fb at *
      clear z0 z1 z2 z3 y0 y1
      go_loopg [7, 8] l.length (fun gh vo vi wr => ∃ (k : Nat) (out : EntL), vi = .int .i64 k ∧ k ≤ l.length ∧ gh = l.length - k ∧ Hid (out ++ keepL many (l.drop k) = keepL many l) ∧ OwB wr w.heap.size w2.heap.size 42 vo out ∧ Below w2.heap.size w2 wr)
      case atStart => exact ⟨0, [], rfl, Nat.zero_le _, rfl, Lib.hid rfl, OwB.nil _ _ _ _, Below.refl _ _⟩
      case round =>
        obtain ⟨k, out, rfl, hk, hgm, hI, hO, hB⟩ := hrel
        obtain ⟨A3, u3, hvo⟩ := hO.slice
        subst hvo
        have hol : out.length ≤ l.length := by
          have := congrArg List.length hI.out
          rw [List.length_append] at this
          have h2 := keepL_len many l
          omega
        by_cases hkl : k < l.length
        · obtain ⟨g, o, rfl, hg, hcell⟩ := HX.out (by omega)
          have HC := Lib.hid hcell
          have b1 : (0 : Int) ≤ (k : Int) := by omega
          have b2 : (k : Int) < (l.length : Int) := by omega
          have HO := Lib.hid hO
          have HBR := Lib.hid hB
          have hsz : w2.heap.size ≤ wr.heap.size := hB.size
          clear hcell hO hB
          obtain ⟨wq, hwq⟩ : ∃ x, x = wr := ⟨_, rfl⟩
          subst hwq
          go_wp2
          go_loopg [9, 10] (l.length - (k + 1)) (fun gh va vj wr => ∃ (j : Nat) (n : Nat), vj = .int .i64 j ∧ va = .int .i64 n ∧ k < j ∧ j ≤ l.length ∧ gh = l.length - j ∧ Hid (n + cntN l[k].r.name (l.drop j) = cntN l[k].r.name (l.drop (k + 1))) ∧ n ≤ l.length ∧ Below wq.heap.size wq wr)
          case atStart => exact ⟨k + 1, 0, by go_num, rfl, by omega, hkl, rfl, Lib.hid (Nat.zero_add _), Nat.zero_le _, Below.refl _ _⟩
          case round =>
            obtain ⟨j, n, rfl, rfl, hkj, hj, hgj, hN, hnl, hBj⟩ := hrel
            have HBJ := Lib.hid ((HB2.out.trans (HBR.out.mono HB2.out.size)).trans (hBj.mono (HB2.out.trans (HBR.out.mono HB2.out.size)).size))
            by_cases hjl : j < l.length
            · have b3 : (0 : Int) ≤ (j : Int) := by omega
              have b4 : (j : Int) < (l.length : Int) := by omega
              have d1 := (HBJ.out.cell (p := ⟨g, o + k * 5 + 1, none⟩) hg).trans (HC.out k hkl).2.1
              have e1 := (HBJ.out.cell (p := ⟨g, o + j * 5 + 1, none⟩) hg).trans (HC.out j hjl).2.1
              have hcmp := name_cmp l[j].r.name l[k].r.name
              have hcd := cntN_drop (nm := l[k].r.name) hjl
              have hcle := cntN_le l[k].r.name (l.drop (k + 1))
              rw [List.length_drop] at hcle
              by_cases he : l[j].r.name = l[k].r.name
              · have hei : ((bs l[j].r.name).toList == (bs l[k].r.name).toList) = true := by rw [hcmp]; simpa using he
                have hne : nameE l[k].r.name l[j] = true := by unfold nameE; simpa using he
                rw [if_pos hne] at hcd
                have hN' : Hid (n + 1 + cntN l[k].r.name (l.drop (j + 1)) = cntN l[k].r.name (l.drop (k + 1))) := Lib.hid (by have := hN.out; omega)
                have hnl' : n + 1 ≤ l.length := by have := hN'.out; omega
                have HBJ2 := Lib.hid hBj
                clear hcmp he hne hcd hcle hN hBj
                go_wp2
                go_quiet (fail)
                go_wp2
                go_roundg (l.length - (j + 1))
                case measure => omega
                case rel => exact ⟨j + 1, n + 1, by go_num, by go_num, by omega, hjl, rfl, hN', hnl', below_drewN HBJ2.out _⟩
              · have hei : ((bs l[j].r.name).toList == (bs l[k].r.name).toList) = false := by rw [hcmp]; simpa using he
                have hne : ¬ nameE l[k].r.name l[j] = true := by unfold nameE; simpa using he
                rw [if_neg hne] at hcd
                have hN' : Hid (n + cntN l[k].r.name (l.drop (j + 1)) = cntN l[k].r.name (l.drop (k + 1))) := Lib.hid (by have := hN.out; omega)
                have HBJ2 := Lib.hid hBj
                clear hcmp he hne hcd hcle hN hBj
                go_wp2
                go_quiet (fail)
                go_wp2
                go_roundg (l.length - (j + 1))
                case measure => omega
                case rel => exact ⟨j + 1, n, by go_num, rfl, by omega, hjl, rfl, hN', hnl, below_drewN HBJ2.out _⟩
            · obtain rfl : j = l.length := by omega
              have hNe : n = cntN l[k].r.name (l.drop (k + 1)) := by
                have := hN.out
                rw [List.drop_length, cntN_nil] at this
                exact this
              have hkd := keepL_drop (many := many) hkl
              have HO2 := Lib.hid (HO.out.below hBj (Nat.le_trans HB2.out.size hsz))
              have HB4 := Lib.hid (HBR.out.trans (hBj.mono HBR.out.size))
              by_cases hlt : (n : Int) < many
              · have hI' : Hid ((out ++ [l[k]]) ++ keepL many (l.drop (k + 1)) = keepL many l) := Lib.hid (by
                  rw [← hI.out, hkd, if_pos (by rw [← hNe]; exact hlt)]; simp)
                obtain ⟨c0, c1, c2, c3, c4⟩ := HC.out k hkl
                have d0 := (HBJ.out.cell (p := ⟨g, o + k * 5, none⟩) hg).trans c0
                have d1 := (HBJ.out.cell (p := ⟨g, o + k * 5 + 1, none⟩) hg).trans c1
                have d2 := (HBJ.out.cell (p := ⟨g, o + k * 5 + 2, none⟩) hg).trans c2
                have d3 := (HBJ.out.cell (p := ⟨g, o + k * 5 + 3, none⟩) hg).trans c3
                have d4 := (HBJ.out.cell (p := ⟨g, o + k * 5 + 4, none⟩) hg).trans c4
                have hsk := (HS.out k hkl).keep HBJ.out (Nat.le_refl _)
                obtain ⟨E, hE, ho, hex⟩ := HO2.out
                have hEl : E.length = out.length := by rw [← hE, List.length_map]
                rw [hEl] at ho
                obtain ⟨SA, sc, hSA⟩ := hsk.slice
                rw [hSA] at d4 hsk
                clear hN hNe hkd c0 c1 c2 c3 c4 hBj
                have hwj : w2.heap.size ≤ wr.heap.size := HB4.out.size
                have haw : Below wr.heap.size wr (wr.alloc (.cells #[.int .i64 l[k].day, VT l[k].r.name, .int .i64 l[k].r.len, .int .u32 (l[k].r.print : Int), .slice SA l[k].r.ids.length sc] 42)) := (Below.refl _ _).alloc (Nat.le_refl _) _
                have hws : w.heap.size ≤ wr.heap.size := Nat.le_trans HB2.out.size hwj
                have HBA := Lib.hid (HB4.out.trans (haw.mono HB4.out.size))
                have hoa := own_belowI ho haw
                have hxa : ∀ x ∈ E, RdI _ w.heap.size x.2 x.1.r.ids := fun x hm => (hex x hm).keep haw hws
                have hya := hsk.keep haw hws
                have HNE := Lib.hid (NewE.mk' wr (l[k], .slice SA l[k].r.ids.length sc) 42)
                clear ho hex hsk haw
                go_wp2_with (first | (at_builtin; go_loud (refine wpList_append_own_at _ rfl (.tmp 52) (.tmp 57) 22 rfl w2.heap.size 42 i0 (.agg #[.int .i64 0, .string ByteArray.empty, .int .i64 0, .int .u32 0, .slice none 0 0]) 5 64 Tryz.underlying22 hi hz0 hz1 hz2 rfl (by decide) (.slice A3 out.length u3) out.length (entRow E) rfl hoa ⟨wr.heap.size, 0, none⟩ 1 1 (entCells (l[k], .slice SA l[k].r.ids.length sc)) rfl rfl HNE.out (entCells_one hya) (by unfold maxLen; omega) (by omega) HBA.out.size ?_; intro v7 w7 hown7 hg7 _ _)) | fail)
                have HO7 := Lib.hid (OwB.snoc hE hoa hEl.symm hxa HB2.out.size (Nat.le_trans hws (by simp)) hya hown7 hg7)
                have HB7 := Lib.hid (HBA.out.grown hg7 HBA.out.size (fun q hq => own_ge hoa hq))
                clear hown7 hg7 hoa hxa hya
                go_wp2
                go_roundg (l.length - (k + 1))
                case measure => omega
                case rel => exact ⟨k + 1, out ++ [l[k]], by go_num, hkl, rfl, hI', HO7.out, HB7.out⟩
              · have hI' : Hid (out ++ keepL many (l.drop (k + 1)) = keepL many l) := Lib.hid (by
                  rw [← hI.out, hkd, if_neg (by rw [← hNe]; exact hlt)])
                clear hN hNe hkd hBj
                go_wp2
                go_roundg (l.length - (k + 1))
                case measure => omega
                case rel => exact ⟨k + 1, out, by go_num, hkl, rfl, hI', HO2.out, HB4.out⟩
        · obtain rfl : k = l.length := by omega
          have hout : out = keepL many l := by have := hI.out; rw [List.drop_length] at this; simpa [keepL] using this
          have HDR := Lib.hid (HD2.out.below hB HD2.out.lt)
          have HFR := Lib.hid (HF2.out.below hB HF2.out.lt)
          have HBF := Lib.hid (HB2.out.trans (hB.mono HB2.out.size))
          obtain ⟨z0, z1, z2, z3⟩ := HDR.out
          obtain ⟨y0, y1, _, _⟩ := HFR.out
          obtain ⟨t0, t1, t2⟩ := HDR.out.rd (.int .i64 0) (.int .i64 (-1))
          have FIN := Lib.hid (fun wf (h : wr.grownBy wf (some w.heap.size)) => (⟨((hO.gb h HBF.out.size (Nat.le_refl _) (by omega)).rd (Nat.le_trans HBF.out.size h.size)), HBF.out.grown h HBF.out.size (fun q hq => by injection hq with hq; omega)⟩ : RdT wf wf.heap.size (.slice A3 out.length u3) out ∧ Below w.heap.size w wf))
          clear hI hB hO
          go_wp2
          go_region
          all_goals
            go_wp2
            refine bodyPost_ret (v := .tuple #[.slice A3 out.length u3, fltV (0, -1)]) (by simp [results, Tryz.results24, go_sem, t0, t1]) rfl ?_
            exact keep_fin HE.out hout (FIN.out _ (by repeat (first | exact gb_rf _ _ | refine gb_drw ?_ | refine gb_set ?_ _ _ | refine gb_al ?_ _)))
  · have h0i : 0 < F.1 := by omega
    have HE := Lib.hid (keep_fault (many := many) (by rw [hF]; exact h0))
    obtain ⟨t0, t1, t2⟩ := HD2.out.rd (.int .i64 F.1) (.int .i64 F.2)
    clear h0 hrg
    go_wp2
    generalize w1.alloc (.cells #[.int .i64 F.1, .int .i64 F.2] 49) = w2 at *
    generalize w1.heap.size = fb at *
    go_region
    all_goals
      go_wp2
      refine bodyPost_ret (v := .tuple #[.slice none 0 0, fltV F]) (by simp [results, Tryz.results24, go_sem, t0, t1]) rfl ?_
      exact ⟨_, by rw [HE.out, hF], by rw [HE.out]; exact RdT.nil _ _, below_set2 HB2.out.drew (Nat.le_refl _) _ _⟩
end Go.Proofs.YtbokckjlgjnnjaaGreatDoor
/- Walks of the reference's SameIDs, SameRecipe at two of one content. No conditions but bounds. -/
namespace Go.Proofs.YtbokckjlgjnnjaaGreatDoor
open Go.RowKit Go.Lib

set_option maxRecDepth 100000 in
set_option maxHeartbeats 1000000 in
theorem SameIDs_same (va vb : Value) (L : IdL) (hL : L.length ≤ 1000000) (w : World) (ha : RdI w w.heap.size va L) (hb : RdI w w.heap.size vb L) :
    Calls Tryz.prog 51 #[va, vb] w fun e w' => e = .returned (.bool true) ∧ Below w.heap.size w w' := by
  obtain ⟨A, c, rfl, _, hca⟩ := ha.form
  obtain ⟨A', c', rfl, _, hcb⟩ := hb.form
  have HA := Lib.hid hca
  have HB := Lib.hid hcb
  have hll : ((L.length : Int) != (L.length : Int)) = false := by simp
  clear ha hb hca hcb
  go_enter Tryz.func51, Tryz.ntmps51
  go_wp2
  go_loopg [5] L.length (fun gh vi wr => ∃ k : Nat, vi = .int .i64 k ∧ k ≤ L.length ∧ gh = L.length - k ∧ Below w.heap.size w wr)
  case atStart => exact ⟨0, rfl, Nat.zero_le _, rfl, Below.refl _ _⟩
  case round =>
    obtain ⟨k, rfl, hk, hgm, hB⟩ := hrel
    by_cases hkl : k < L.length
    · obtain ⟨g, o, rfl, hg, hx⟩ := HA.out (by omega)
      obtain ⟨g', o', rfl, hg', hx'⟩ := HB.out (by omega)
      obtain ⟨x0, x1⟩ := hx k hkl
      obtain ⟨y0, y1⟩ := hx' k hkl
      have X0 := Lib.hid ((hB.cell (p := ⟨g, o + k * 2, none⟩) hg).trans x0)
      have X1 := Lib.hid ((hB.cell (p := ⟨g, o + k * 2 + 1, none⟩) hg).trans x1)
      have Y0 := Lib.hid ((hB.cell (p := ⟨g', o' + k * 2, none⟩) hg').trans y0)
      have Y1 := Lib.hid ((hB.cell (p := ⟨g', o' + k * 2 + 1, none⟩) hg').trans y1)
      have hgr : g < wr.heap.size := Nat.lt_of_lt_of_le hg hB.size
      have hgr' : g' < wr.heap.size := Nat.lt_of_lt_of_le hg' hB.size
      have b1 : (0 : Int) ≤ (k : Int) := by omega
      have b2 : (k : Int) < (L.length : Int) := by omega
      clear hx hx' x0 x1 y0 y1
      go_wp2
      have hS0 : Below wr.heap.size wr wr.drew := (Below.refl _ _).drew
      refine region_S (fun w' => Below wr.heap.size wr w') 8 (by kernel_rfl) (by kernel_rfl) ?_
      refine take_S 0 rfl (by kernel_rfl) (by kernel_rfl) hS0 (fun w' hS => by go_simp; rfl) ?_
      refine take_S 1 rfl (by kernel_rfl) (by kernel_rfl) hS0 (fun w' hS => by go_simp; rfl) ?_
      refine take_S 2 rfl (by kernel_rfl) (by kernel_rfl) hS0 (fun w' hS => by go_simp; rfl) ?_
      refine take_S 3 rfl (by kernel_rfl) (by kernel_rfl) hS0 (fun w' hS => by have B0 := (hS.cell (p := ⟨g, o + k * 2, none⟩) hgr).trans X0.out; have B1 := (hS.cell (p := ⟨g, o + k * 2 + 1, none⟩) hgr).trans X1.out; go_simp; rfl) ?_
      refine take_S 4 rfl (by kernel_rfl) (by kernel_rfl) hS0 (fun w' hS => by go_simp; rfl) ?_
      refine take_S 5 rfl (by kernel_rfl) (by kernel_rfl) hS0 (fun w' hS => by go_simp; rfl) ?_
      refine take_S 6 rfl (by kernel_rfl) (by kernel_rfl) hS0 (fun w' hS => by go_simp; rfl) ?_
      refine take_S 7 rfl (by kernel_rfl) (by kernel_rfl) hS0 (fun w' hS => by have B0 := (hS.cell (p := ⟨g', o' + k * 2, none⟩) hgr').trans Y0.out; have B1 := (hS.cell (p := ⟨g', o' + k * 2 + 1, none⟩) hgr').trans Y1.out; go_simp; rfl) (forced_S (by kernel_rfl) ?_)
      try simp only [Act.put, List.getElem_toArray, List.getElem_cons_succ, List.getElem_cons_zero, List.setIfInBounds_toArray, List.set_cons_zero, List.set_cons_succ]
      simp only [List.drop_succ_cons, List.drop_zero]
      go_wp2
      go_roundg (L.length - (k + 1))
      case measure => omega
      case rel => exact ⟨k + 1, by go_num, hkl, rfl, hB.drew⟩
    · obtain rfl : k = L.length := by omega
      go_wp2
      go_ret
      exact ⟨rfl, hB⟩
set_option maxRecDepth 100000 in
set_option maxHeartbeats 1000000 in
theorem SameRecipe_same (va vb : Value) (r : Rcp) (hL : r.ids.length ≤ 1000000) (w : World) (ha : RcpV w w.heap.size va r) (hb : RcpV w w.heap.size vb r) :
    Calls Tryz.prog 12 #[va, vb] w fun e w' => e = .returned (.bool true) ∧ Below w.heap.size w w' := by
  obtain ⟨sa, rfl, hra⟩ := ha
  obtain ⟨sb, rfl, hrb⟩ := hb
  have hb0 : Below w.heap.size w ((w.alloc (.cells #[VT r.name, .int .i64 r.len, .int .u32 (r.print : Int), sa] 36)).alloc (.cells #[VT r.name, .int .i64 r.len, .int .u32 (r.print : Int), sb] 36)) := ((Below.refl _ w).alloc (Nat.le_refl _) _).alloc (by simp) _
  have h1 : Box4 w.heap.size (VT r.name) (.int .i64 r.len) (.int .u32 (r.print : Int)) sa ((w.alloc (.cells #[VT r.name, .int .i64 r.len, .int .u32 (r.print : Int), sa] 36)).alloc (.cells #[VT r.name, .int .i64 r.len, .int .u32 (r.print : Int), sb] 36)) := (Box4.mk' w _ _ _ _ _).below ((Below.refl (w.alloc _).heap.size (w.alloc _)).alloc (Nat.le_refl _) _) (by simp)
  have h2 : Box4 (w.heap.size + 1) (VT r.name) (.int .i64 r.len) (.int .u32 (r.print : Int)) sb ((w.alloc (.cells #[VT r.name, .int .i64 r.len, .int .u32 (r.print : Int), sa] 36)).alloc (.cells #[VT r.name, .int .i64 r.len, .int .u32 (r.print : Int), sb] 36)) := by
    have := Box4.mk' (w.alloc (.cells #[VT r.name, .int .i64 r.len, .int .u32 (r.print : Int), sa] 36)) (VT r.name) (.int .i64 r.len) (.int .u32 (r.print : Int)) sb 36
    simpa using this
  have S := Lib.hid (SameIDs_same sa sb r.ids hL ((w.alloc (.cells #[VT r.name, .int .i64 r.len, .int .u32 (r.print : Int), sa] 36)).alloc (.cells #[VT r.name, .int .i64 r.len, .int .u32 (r.print : Int), sb] 36)) ((hra.keep hb0 (Nat.le_refl _)).more hb0.size) ((hrb.keep hb0 (Nat.le_refl _)).more hb0.size))
  obtain ⟨A, c, rfl, _, _⟩ := hra.form
  obtain ⟨A', c', rfl, _, _⟩ := hrb.form
  obtain ⟨c0, c1, c2, c3, _⟩ := h1
  obtain ⟨d0, d1, d2, d3, _⟩ := h2
  have e0 : ((bs r.name).toList == (bs r.name).toList) = true := by simp
  have e1 : (r.len == r.len) = true := by simp
  have e2 : ((r.print : Int) == (r.print : Int)) = true := by simp
  have HB0 := Lib.hid hb0
  clear hra hrb hb0
  go_enter Tryz.func12, Tryz.ntmps12
  go_wp2_with fail
  refine S.out.mono ?_
  rintro e w3 ⟨rfl, hb3⟩
  go_wp2
  go_ret
  exact ⟨rfl, HB0.out.trans (hb3.mono HB0.out.size)⟩
end Go.Proofs.YtbokckjlgjnnjaaGreatDoor
/- Trails: walks of the laws' longTrail, asTrail, sameTrail. No conditions but bounds. -/
namespace Go.Proofs.YtbokckjlgjnnjaaGreatDoor
open Go.RowKit Go.Lib

def longE (l : EntL) : Bool := l.any fun e => decide (0 < longR e.r)
def longT (l : EntL) : Bool := decide (20 < l.length ∧ l.length ≠ 40 ∧ l.length ≠ 41) || longE l
theorem longE_drop {l : EntL} {k : Nat} (h : k < l.length) : longE (l.drop k) = (decide (0 < longR l[k].r) || longE (l.drop (k + 1))) := by
  rw [List.drop_eq_getElem_cons h]; rfl
structure EntB (e : Ent) : Prop where
  n : e.r.name.length ≤ maxLen
  c : e.r.ids.length ≤ maxLen
set_option maxRecDepth 100000 in
theorem LongTrail_loop (v : Value) (l : EntL) (hz : ∀ e ∈ l, EntB e) (hl : l.length ≤ maxLen) (hno : ¬ (20 < l.length ∧ l.length ≠ 40 ∧ l.length ≠ 41)) (B : Nat) (w : World) (hv : RdT w B v l) (hB : B ≤ w.heap.size) :
    Calls Tryz.prog 8 #[v] w fun e w' => e = .returned (.bool (longE l)) ∧ Below w.heap.size w w' := by
  obtain ⟨A, c, hvA, hlc, S, hS, hx⟩ := hv.form
  subst hvA
  have HX := Lib.hid hx
  have HS := Lib.hid hS
  have HZ := Lib.hid hz
  have HL : Hid (longE l = longE (l.drop 0)) := Lib.hid rfl
  unfold maxLen at hl
  clear hv hx hS hz
  by_cases h20 : 20 < l.length
  · have i0 : (20 : Int) < (l.length : Int) := by omega
    by_cases h40 : l.length = 40
    · have i1 : ((l.length : Int) != 40) = false := by rw [h40]; rfl
      clear h40 h20 hno
      go_enter Tryz.func8, Tryz.ntmps8
      go_wp2
      go_loopg [3] l.length (fun gh vi wr => ∃ k : Nat, vi = .int .i64 k ∧ k ≤ l.length ∧ gh = l.length - k ∧ Hid (longE l = longE (l.drop k)) ∧ Below w.heap.size w wr)
      case atStart => exact ⟨0, rfl, Nat.zero_le _, rfl, HL, Below.refl _ _⟩
      case round =>
        obtain ⟨k, rfl, hk, hgm, hI, hBl⟩ := hrel
        by_cases hkl : k < l.length
        · obtain ⟨g, o, rfl, hg, hcell⟩ := HX.out (by omega)
          obtain ⟨c0, c1, c2, c3, c4⟩ := hcell k hkl
          have b1 : (0 : Int) ≤ (k : Int) := by omega
          have b2 : (k : Int) < (l.length : Int) := by omega
          have hgw : g < w.heap.size := Nat.lt_of_lt_of_le hg hB
          have d1 := (hBl.cell (p := ⟨g, o + k * 5 + 1, none⟩) hgw).trans c1
          have d2 := (hBl.cell (p := ⟨g, o + k * 5 + 2, none⟩) hgw).trans c2
          have d3 := (hBl.cell (p := ⟨g, o + k * 5 + 3, none⟩) hgw).trans c3
          have d4 := (hBl.cell (p := ⟨g, o + k * 5 + 4, none⟩) hgw).trans c4
          have hzk := HZ.out l[k] (List.getElem_mem hkl)
          have LR := Lib.hid (LongRecipe_any (rcpAgg l[k].r (S k)) l[k].r hzk.n hzk.c B wr ⟨_, rfl, (HS.out k hkl).keep hBl hB⟩)
          have hdr := longE_drop hkl
          have HBl := Lib.hid hBl
          clear hcell c0 c1 c2 c3 c4 hzk hBl
          by_cases hr : 0 < longR l[k].r
          · rw [decide_eq_true hr, Bool.true_or] at hdr
            have HR : Hid (longE l = true) := Lib.hid (hI.out.trans hdr)
            clear hdr hI
            go_wp2_with fail
            refine LR.out.mono ?_
            rintro e w4 ⟨rfl, hb4⟩
            have HB4 := Lib.hid (HBl.out.trans (hb4.mono HBl.out.size))
            clear hb4
            go_wp2
            go_ret
            exact ⟨by rw [HR.out]; rfl, HB4.out⟩
          · rw [decide_eq_false hr, Bool.false_or] at hdr
            have hI' : Hid (longE l = longE (l.drop (k + 1))) := Lib.hid (hI.out.trans hdr)
            clear hdr hI
            go_wp2_with fail
            refine LR.out.mono ?_
            rintro e w4 ⟨rfl, hb4⟩
            have HB4 := Lib.hid (HBl.out.trans (hb4.mono HBl.out.size))
            clear hb4
            go_wp2
            go_roundg (l.length - (k + 1))
            case measure => omega
            case rel => exact ⟨k + 1, by go_num, hkl, rfl, hI', HB4.out⟩
        · obtain rfl : k = l.length := by omega
          have HR : Hid (longE l = false) := Lib.hid (hI.out.trans (by rw [List.drop_length]; rfl))
          have HBl := Lib.hid hBl
          clear hI hBl
          go_wp2
          go_ret
          exact ⟨by rw [HR.out]; rfl, HBl.out⟩
    · have i1 : ((l.length : Int) != 40) = true := by simp; omega
      have i2 : ((l.length : Int) != 41) = false := by have : l.length = 41 := by omega
                                                       rw [this]; rfl
      clear h40 h20 hno
      go_enter Tryz.func8, Tryz.ntmps8
      go_wp2
      go_loopg [3] l.length (fun gh vi wr => ∃ k : Nat, vi = .int .i64 k ∧ k ≤ l.length ∧ gh = l.length - k ∧ Hid (longE l = longE (l.drop k)) ∧ Below w.heap.size w wr)
      case atStart => exact ⟨0, rfl, Nat.zero_le _, rfl, HL, Below.refl _ _⟩
      case round =>
        obtain ⟨k, rfl, hk, hgm, hI, hBl⟩ := hrel
        by_cases hkl : k < l.length
        · obtain ⟨g, o, rfl, hg, hcell⟩ := HX.out (by omega)
          obtain ⟨c0, c1, c2, c3, c4⟩ := hcell k hkl
          have b1 : (0 : Int) ≤ (k : Int) := by omega
          have b2 : (k : Int) < (l.length : Int) := by omega
          have hgw : g < w.heap.size := Nat.lt_of_lt_of_le hg hB
          have d1 := (hBl.cell (p := ⟨g, o + k * 5 + 1, none⟩) hgw).trans c1
          have d2 := (hBl.cell (p := ⟨g, o + k * 5 + 2, none⟩) hgw).trans c2
          have d3 := (hBl.cell (p := ⟨g, o + k * 5 + 3, none⟩) hgw).trans c3
          have d4 := (hBl.cell (p := ⟨g, o + k * 5 + 4, none⟩) hgw).trans c4
          have hzk := HZ.out l[k] (List.getElem_mem hkl)
          have LR := Lib.hid (LongRecipe_any (rcpAgg l[k].r (S k)) l[k].r hzk.n hzk.c B wr ⟨_, rfl, (HS.out k hkl).keep hBl hB⟩)
          have hdr := longE_drop hkl
          have HBl := Lib.hid hBl
          clear hcell c0 c1 c2 c3 c4 hzk hBl
          by_cases hr : 0 < longR l[k].r
          · rw [decide_eq_true hr, Bool.true_or] at hdr
            have HR : Hid (longE l = true) := Lib.hid (hI.out.trans hdr)
            clear hdr hI
            go_wp2_with fail
            refine LR.out.mono ?_
            rintro e w4 ⟨rfl, hb4⟩
            have HB4 := Lib.hid (HBl.out.trans (hb4.mono HBl.out.size))
            clear hb4
            go_wp2
            go_ret
            exact ⟨by rw [HR.out]; rfl, HB4.out⟩
          · rw [decide_eq_false hr, Bool.false_or] at hdr
            have hI' : Hid (longE l = longE (l.drop (k + 1))) := Lib.hid (hI.out.trans hdr)
            clear hdr hI
            go_wp2_with fail
            refine LR.out.mono ?_
            rintro e w4 ⟨rfl, hb4⟩
            have HB4 := Lib.hid (HBl.out.trans (hb4.mono HBl.out.size))
            clear hb4
            go_wp2
            go_roundg (l.length - (k + 1))
            case measure => omega
            case rel => exact ⟨k + 1, by go_num, hkl, rfl, hI', HB4.out⟩
        · obtain rfl : k = l.length := by omega
          have HR : Hid (longE l = false) := Lib.hid (hI.out.trans (by rw [List.drop_length]; rfl))
          have HBl := Lib.hid hBl
          clear hI hBl
          go_wp2
          go_ret
          exact ⟨by rw [HR.out]; rfl, HBl.out⟩
  · have i0 : ¬ (20 : Int) < (l.length : Int) := by omega
    clear h20 hno
    go_enter Tryz.func8, Tryz.ntmps8
    go_wp2
    go_loopg [3] l.length (fun gh vi wr => ∃ k : Nat, vi = .int .i64 k ∧ k ≤ l.length ∧ gh = l.length - k ∧ Hid (longE l = longE (l.drop k)) ∧ Below w.heap.size w wr)
    case atStart => exact ⟨0, rfl, Nat.zero_le _, rfl, HL, Below.refl _ _⟩
    case round =>
      obtain ⟨k, rfl, hk, hgm, hI, hBl⟩ := hrel
      by_cases hkl : k < l.length
      · obtain ⟨g, o, rfl, hg, hcell⟩ := HX.out (by omega)
        obtain ⟨c0, c1, c2, c3, c4⟩ := hcell k hkl
        have b1 : (0 : Int) ≤ (k : Int) := by omega
        have b2 : (k : Int) < (l.length : Int) := by omega
        have hgw : g < w.heap.size := Nat.lt_of_lt_of_le hg hB
        have d1 := (hBl.cell (p := ⟨g, o + k * 5 + 1, none⟩) hgw).trans c1
        have d2 := (hBl.cell (p := ⟨g, o + k * 5 + 2, none⟩) hgw).trans c2
        have d3 := (hBl.cell (p := ⟨g, o + k * 5 + 3, none⟩) hgw).trans c3
        have d4 := (hBl.cell (p := ⟨g, o + k * 5 + 4, none⟩) hgw).trans c4
        have hzk := HZ.out l[k] (List.getElem_mem hkl)
        have LR := Lib.hid (LongRecipe_any (rcpAgg l[k].r (S k)) l[k].r hzk.n hzk.c B wr ⟨_, rfl, (HS.out k hkl).keep hBl hB⟩)
        have hdr := longE_drop hkl
        have HBl := Lib.hid hBl
        clear hcell c0 c1 c2 c3 c4 hzk hBl
        by_cases hr : 0 < longR l[k].r
        · rw [decide_eq_true hr, Bool.true_or] at hdr
          have HR : Hid (longE l = true) := Lib.hid (hI.out.trans hdr)
          clear hdr hI
          go_wp2_with fail
          refine LR.out.mono ?_
          rintro e w4 ⟨rfl, hb4⟩
          have HB4 := Lib.hid (HBl.out.trans (hb4.mono HBl.out.size))
          clear hb4
          go_wp2
          go_ret
          exact ⟨by rw [HR.out]; rfl, HB4.out⟩
        · rw [decide_eq_false hr, Bool.false_or] at hdr
          have hI' : Hid (longE l = longE (l.drop (k + 1))) := Lib.hid (hI.out.trans hdr)
          clear hdr hI
          go_wp2_with fail
          refine LR.out.mono ?_
          rintro e w4 ⟨rfl, hb4⟩
          have HB4 := Lib.hid (HBl.out.trans (hb4.mono HBl.out.size))
          clear hb4
          go_wp2
          go_roundg (l.length - (k + 1))
          case measure => omega
          case rel => exact ⟨k + 1, by go_num, hkl, rfl, hI', HB4.out⟩
      · obtain rfl : k = l.length := by omega
        have HR : Hid (longE l = false) := Lib.hid (hI.out.trans (by rw [List.drop_length]; rfl))
        have HBl := Lib.hid hBl
        clear hI hBl
        go_wp2
        go_ret
        exact ⟨by rw [HR.out]; rfl, HBl.out⟩
def LTPost (l : EntL) (w : World) (e : Ending) (w' : World) : Prop := e = .returned (.bool (longT l)) ∧ Below w.heap.size w w'
set_option maxRecDepth 100000 in
theorem LongTrail_any (v : Value) (l : EntL) (hz : ∀ e ∈ l, EntB e) (hl : l.length ≤ maxLen) (B : Nat) (w : World) (hv : RdT w B v l) (hB : B ≤ w.heap.size) :
    Calls Tryz.prog 8 #[v] w (LTPost l w) := by
  by_cases h : 20 < l.length ∧ l.length ≠ 40 ∧ l.length ≠ 41
  · have HE : Hid (longT l = true) := Lib.hid (by unfold longT; rw [decide_eq_true h]; rfl)
    obtain ⟨A, c, hvA, _⟩ := hv.form
    subst hvA
    have i0 : (20 : Int) < (l.length : Int) := by omega
    have i1 : ((l.length : Int) != 40) = true := by simp; omega
    have i2 : ((l.length : Int) != 41) = true := by simp; omega
    clear hv h hz
    go_enter Tryz.func8, Tryz.ntmps8
    go_wp2
    go_ret
    exact ⟨by rw [HE.out]; rfl, Below.refl _ _⟩
  · refine (LongTrail_loop v l hz hl h B w hv hB).mono fun e w' ⟨h1, h2⟩ => ⟨?_, h2⟩
    rw [h1]; unfold longT; rw [decide_eq_false h]; rfl
/-- a row of the call's own lies below the heap's end -/
theorem own_ltB {w : World} {base n size : Nat} {e : TypeId} {v : Value} {xs : List Value} (h : w.ownsRow base e size v n xs) {g : Nat} (he : v.ownBlock = some g) : g < w.heap.size := by
  rcases h.2 with ⟨rfl, _⟩ | ⟨b, cap, cur, rfl, _, hh, _⟩
  · cases he
  · cases he; exact (Array.getElem?_eq_some_iff.1 hh).1
def AsPost (l : EntL) (w : World) (e : Ending) (w' : World) : Prop := ∃ v, e = .returned v ∧ RdT w' w'.heap.size v l ∧ Below w.heap.size w w'
set_option maxRecDepth 100000 in
set_option maxHeartbeats 4000000 in
theorem AsTrail_any (v : Value) (l : EntL) (hb : ∀ e ∈ l, RcpB e.r) (hl : l.length ≤ 1000000) (w : World) (hv : RdT w w.heap.size v l) :
    Calls Tryz.prog 9 #[v] w (AsPost l w) := by
  obtain ⟨i0, hi, hz0, hz1, hz2⟩ := info_parts info_ent
  obtain ⟨A, c, hvA, hlc, S, hS, hx⟩ := hv.form
  subst hvA
  have HX := Lib.hid hx
  have HS := Lib.hid hS
  have HRB := Lib.hid hb
  clear hv hx hS hb
  go_enter Tryz.func9, Tryz.ntmps9
  go_wp2
  go_loopg [3, 4] l.length (fun gh vo vi wr => ∃ k : Nat, vi = .int .i64 k ∧ k ≤ l.length ∧ gh = l.length - k ∧ OwT wr w.heap.size 38 vo (l.take k) ∧ Below w.heap.size w wr)
  case atStart => exact ⟨0, rfl, Nat.zero_le _, rfl, OwT.nil _ _ _, Below.refl _ _⟩
  case round =>
    obtain ⟨k, rfl, hk, hgm, hO, hB⟩ := hrel
    obtain ⟨A3, u3, hvo⟩ := hO.slice
    have hlk : (l.take k).length = k := by rw [List.length_take]; omega
    rw [hlk] at hvo
    subst hvo
    by_cases hkl : k < l.length
    · obtain ⟨g, o, rfl, hg, hcell⟩ := HX.out (by omega)
      obtain ⟨c0, c1, c2, c3, c4⟩ := hcell k hkl
      have b1 : (0 : Int) ≤ (k : Int) := by omega
      have b2 : (k : Int) < (l.length : Int) := by omega
      have HSK := Lib.hid (((HS.out k hkl).keep hB (Nat.le_refl _)).more hB.size)
      have HBk := Lib.hid (HRB.out l[k] (List.getElem_mem hkl))
      have HTK : Hid (l.take (k + 1) = l.take k ++ [l[k]]) := Lib.hid (List.take_succ_eq_append_getElem hkl)
      obtain ⟨SA, sc, hSA⟩ := HSK.out.slice
      rw [hSA] at c4 HSK
      have D0 := Lib.hid ((hB.cell (p := ⟨g, o + k * 5, none⟩) hg).trans c0)
      have D1 := Lib.hid ((hB.cell (p := ⟨g, o + k * 5 + 1, none⟩) hg).trans c1)
      have D2 := Lib.hid ((hB.cell (p := ⟨g, o + k * 5 + 2, none⟩) hg).trans c2)
      have D3 := Lib.hid ((hB.cell (p := ⟨g, o + k * 5 + 3, none⟩) hg).trans c3)
      have D4 := Lib.hid ((hB.cell (p := ⟨g, o + k * 5 + 4, none⟩) hg).trans c4)
      have hgr : g < wr.heap.size := Nat.lt_of_lt_of_le hg hB.size
      have HO := Lib.hid hO
      have HB := Lib.hid hB
      have hws : w.heap.size ≤ wr.heap.size := hB.size
      clear hcell c0 c1 c2 c3 c4 hSA hO hB
      generalize hek : l[k] = ek at *
      go_wp2
      have hS0 : Below wr.heap.size wr wr.drew := (Below.refl _ _).drew
      refine region_S (fun w' => Below wr.heap.size wr w') 14 (by kernel_rfl) (by kernel_rfl) ?_
      refine take_S 0 rfl (by kernel_rfl) (by kernel_rfl) hS0 (fun w' hS => by have c0 := (hS.cell (p := ⟨g, o + k * 5, none⟩) hgr).trans D0.out; have c1 := (hS.cell (p := ⟨g, o + k * 5 + 1, none⟩) hgr).trans D1.out; have c2 := (hS.cell (p := ⟨g, o + k * 5 + 2, none⟩) hgr).trans D2.out; have c3 := (hS.cell (p := ⟨g, o + k * 5 + 3, none⟩) hgr).trans D3.out; have c4 := (hS.cell (p := ⟨g, o + k * 5 + 4, none⟩) hgr).trans D4.out; go_simp; rfl) ?_
      refine take_S 1 rfl (by kernel_rfl) (by kernel_rfl) hS0 (fun w' hS => by have c0 := (hS.cell (p := ⟨g, o + k * 5, none⟩) hgr).trans D0.out; have c1 := (hS.cell (p := ⟨g, o + k * 5 + 1, none⟩) hgr).trans D1.out; have c2 := (hS.cell (p := ⟨g, o + k * 5 + 2, none⟩) hgr).trans D2.out; have c3 := (hS.cell (p := ⟨g, o + k * 5 + 3, none⟩) hgr).trans D3.out; have c4 := (hS.cell (p := ⟨g, o + k * 5 + 4, none⟩) hgr).trans D4.out; go_simp; rfl) ?_
      refine take_S 2 rfl (by kernel_rfl) (by kernel_rfl) hS0 (fun w' hS => by have c0 := (hS.cell (p := ⟨g, o + k * 5, none⟩) hgr).trans D0.out; have c1 := (hS.cell (p := ⟨g, o + k * 5 + 1, none⟩) hgr).trans D1.out; have c2 := (hS.cell (p := ⟨g, o + k * 5 + 2, none⟩) hgr).trans D2.out; have c3 := (hS.cell (p := ⟨g, o + k * 5 + 3, none⟩) hgr).trans D3.out; have c4 := (hS.cell (p := ⟨g, o + k * 5 + 4, none⟩) hgr).trans D4.out; go_simp; rfl) ?_
      refine take_S 3 rfl (by kernel_rfl) (by kernel_rfl) hS0 (fun w' hS => by have c0 := (hS.cell (p := ⟨g, o + k * 5, none⟩) hgr).trans D0.out; have c1 := (hS.cell (p := ⟨g, o + k * 5 + 1, none⟩) hgr).trans D1.out; have c2 := (hS.cell (p := ⟨g, o + k * 5 + 2, none⟩) hgr).trans D2.out; have c3 := (hS.cell (p := ⟨g, o + k * 5 + 3, none⟩) hgr).trans D3.out; have c4 := (hS.cell (p := ⟨g, o + k * 5 + 4, none⟩) hgr).trans D4.out; go_simp; rfl) ?_
      refine take_S 4 rfl (by kernel_rfl) (by kernel_rfl) hS0 (fun w' hS => by have c0 := (hS.cell (p := ⟨g, o + k * 5, none⟩) hgr).trans D0.out; have c1 := (hS.cell (p := ⟨g, o + k * 5 + 1, none⟩) hgr).trans D1.out; have c2 := (hS.cell (p := ⟨g, o + k * 5 + 2, none⟩) hgr).trans D2.out; have c3 := (hS.cell (p := ⟨g, o + k * 5 + 3, none⟩) hgr).trans D3.out; have c4 := (hS.cell (p := ⟨g, o + k * 5 + 4, none⟩) hgr).trans D4.out; go_simp; rfl) ?_
      refine take_S 5 rfl (by kernel_rfl) (by kernel_rfl) hS0 (fun w' hS => by have c0 := (hS.cell (p := ⟨g, o + k * 5, none⟩) hgr).trans D0.out; have c1 := (hS.cell (p := ⟨g, o + k * 5 + 1, none⟩) hgr).trans D1.out; have c2 := (hS.cell (p := ⟨g, o + k * 5 + 2, none⟩) hgr).trans D2.out; have c3 := (hS.cell (p := ⟨g, o + k * 5 + 3, none⟩) hgr).trans D3.out; have c4 := (hS.cell (p := ⟨g, o + k * 5 + 4, none⟩) hgr).trans D4.out; go_simp; rfl) ?_
      refine take_S 6 rfl (by kernel_rfl) (by kernel_rfl) hS0 (fun w' hS => by have c0 := (hS.cell (p := ⟨g, o + k * 5, none⟩) hgr).trans D0.out; have c1 := (hS.cell (p := ⟨g, o + k * 5 + 1, none⟩) hgr).trans D1.out; have c2 := (hS.cell (p := ⟨g, o + k * 5 + 2, none⟩) hgr).trans D2.out; have c3 := (hS.cell (p := ⟨g, o + k * 5 + 3, none⟩) hgr).trans D3.out; have c4 := (hS.cell (p := ⟨g, o + k * 5 + 4, none⟩) hgr).trans D4.out; go_simp; rfl) ?_
      refine take_S 7 rfl (by kernel_rfl) (by kernel_rfl) hS0 (fun w' hS => by have c0 := (hS.cell (p := ⟨g, o + k * 5, none⟩) hgr).trans D0.out; have c1 := (hS.cell (p := ⟨g, o + k * 5 + 1, none⟩) hgr).trans D1.out; have c2 := (hS.cell (p := ⟨g, o + k * 5 + 2, none⟩) hgr).trans D2.out; have c3 := (hS.cell (p := ⟨g, o + k * 5 + 3, none⟩) hgr).trans D3.out; have c4 := (hS.cell (p := ⟨g, o + k * 5 + 4, none⟩) hgr).trans D4.out; go_simp; rfl) ?_
      refine take_S 8 rfl (by kernel_rfl) (by kernel_rfl) hS0 (fun w' hS => by have c0 := (hS.cell (p := ⟨g, o + k * 5, none⟩) hgr).trans D0.out; have c1 := (hS.cell (p := ⟨g, o + k * 5 + 1, none⟩) hgr).trans D1.out; have c2 := (hS.cell (p := ⟨g, o + k * 5 + 2, none⟩) hgr).trans D2.out; have c3 := (hS.cell (p := ⟨g, o + k * 5 + 3, none⟩) hgr).trans D3.out; have c4 := (hS.cell (p := ⟨g, o + k * 5 + 4, none⟩) hgr).trans D4.out; go_simp; rfl) ?_
      refine take_S 9 rfl (by kernel_rfl) (by kernel_rfl) hS0 (fun w' hS => by have c0 := (hS.cell (p := ⟨g, o + k * 5, none⟩) hgr).trans D0.out; have c1 := (hS.cell (p := ⟨g, o + k * 5 + 1, none⟩) hgr).trans D1.out; have c2 := (hS.cell (p := ⟨g, o + k * 5 + 2, none⟩) hgr).trans D2.out; have c3 := (hS.cell (p := ⟨g, o + k * 5 + 3, none⟩) hgr).trans D3.out; have c4 := (hS.cell (p := ⟨g, o + k * 5 + 4, none⟩) hgr).trans D4.out; go_simp; rfl) ?_
      refine take_S 10 rfl (by kernel_rfl) (by kernel_rfl) hS0 (fun w' hS => by have c0 := (hS.cell (p := ⟨g, o + k * 5, none⟩) hgr).trans D0.out; have c1 := (hS.cell (p := ⟨g, o + k * 5 + 1, none⟩) hgr).trans D1.out; have c2 := (hS.cell (p := ⟨g, o + k * 5 + 2, none⟩) hgr).trans D2.out; have c3 := (hS.cell (p := ⟨g, o + k * 5 + 3, none⟩) hgr).trans D3.out; have c4 := (hS.cell (p := ⟨g, o + k * 5 + 4, none⟩) hgr).trans D4.out; go_simp; rfl) ?_
      refine carry_S 11 rfl (by kernel_rfl) (by decide) (by kernel_rfl) (fun K hK => ?_)
      go_simp
      refine (OwnRecipe_any (rcpAgg ek.r (.slice SA ek.r.ids.length sc)) ek.r HBk.out.c wr.drew ⟨_, rfl, (HSK.out.keep hS0 (Nat.le_refl _)).more hS0.size⟩).mono ?_
      rintro e w4 ⟨v4, rfl, ⟨sl4, rfl, hr4⟩, hb4⟩
      obtain ⟨A4, c4, hsl4⟩ := hr4.rd.slice
      subst hsl4
      have hS4 : Below wr.heap.size wr w4 := hS0.trans (hb4.mono hS0.size)
      refine hK _ _ hS4 ?_
      clear hK K hb4
      try simp only [Act.put, List.getElem_toArray, List.getElem_cons_succ, List.getElem_cons_zero, List.setIfInBounds_toArray, List.set_cons_zero, List.set_cons_succ]
      refine take_S 12 rfl (by kernel_rfl) (by kernel_rfl) hS4 (fun w' hS => by go_simp; rfl) ?_
      try simp only [Act.put, List.getElem_toArray, List.getElem_cons_succ, List.getElem_cons_zero, List.setIfInBounds_toArray, List.set_cons_zero, List.set_cons_succ]
      refine carry_S 13 rfl (by kernel_rfl) (by decide) (by kernel_rfl) (fun K hK => ?_)
      go_simp
      have HO4 := Lib.hid (HO.out.below hS4)
      have haw : Below w4.heap.size w4 (w4.alloc (.cells #[.int .i64 ek.day, VT ek.r.name, .int .i64 ek.r.len, .int .u32 (ek.r.print : Int), .slice A4 ek.r.ids.length c4] 38)) := (Below.refl _ _).alloc (Nat.le_refl _) _
      have hS5 : Below wr.heap.size wr (w4.alloc (.cells #[.int .i64 ek.day, VT ek.r.name, .int .i64 ek.r.len, .int .u32 (ek.r.print : Int), .slice A4 ek.r.ids.length c4] 38)) := hS4.trans (haw.mono hS4.size)
      have HBA := Lib.hid ((HB.out.trans (hS4.mono HB.out.size)).trans (haw.mono (HB.out.trans (hS4.mono HB.out.size)).size))
      refine hK _ _ hS5 (forced_S (by kernel_rfl) ?_)
      clear hK K
      try simp only [Act.put, List.getElem_toArray, List.getElem_cons_succ, List.getElem_cons_zero, List.setIfInBounds_toArray, List.set_cons_zero, List.set_cons_succ]
      simp only [List.drop_succ_cons, List.drop_zero]
      obtain ⟨E, hE, ho, hex⟩ := HO4.out.below haw
      have hEl : E.length = k := by rw [← hlk, ← hE, List.length_map]
      have hfar : ∀ q, (Value.slice A3 k u3).ownBlock = some q → FarI (.slice A4 ek.r.ids.length c4) ek.r.ids q := fun q hq => by
        obtain ⟨E', hE', ho', _⟩ := HO.out
        have := own_ltB ho' hq
        exact hr4.farB (by simpa using this)
      have hya : RdI _ _ (.slice A4 ek.r.ids.length c4) ek.r.ids := (hr4.rd.keep haw (Nat.le_refl _)).more haw.size
      have HNE := Lib.hid (NewE.mk' w4 (ek, .slice A4 ek.r.ids.length c4) 38)
      have hok := ho
      rw [hEl] at hok
      clear hr4 haw
      go_wp2_with (first | (at_builtin; go_loud (refine wpList_append_own_at _ rfl (.tmp 11) (.tmp 24) 25 rfl w.heap.size 38 i0 (.agg #[.int .i64 0, .string ByteArray.empty, .int .i64 0, .int .u32 0, .slice none 0 0]) 5 64 Tryz.underlying25 hi hz0 hz1 hz2 rfl (by decide) (.slice A3 k u3) k (entRow E) rfl hok ⟨w4.heap.size, 0, none⟩ 1 1 (entCells (ek, .slice A4 ek.r.ids.length c4)) rfl rfl HNE.out (entCells_one hya) (by unfold maxLen; omega) (by omega) HBA.out.size ?_; intro v7 w7 hown7 hg7 _ hat7)) | fail)
      have HO7 := Lib.hid (OwT.snoc ho hex (y := (ek, .slice A4 ek.r.ids.length c4)) hya hfar (by rw [hEl]; exact hown7) hg7 hat7)
      have HB7 := Lib.hid (HBA.out.grown hg7 HBA.out.size (fun q hq => own_ge ho hq))
      rw [List.map_append, hE] at HO7
      clear hown7 hg7 hat7 ho hok hex hya hfar hE hEl
      go_wp2
      go_roundg (l.length - (k + 1))
      case measure => omega
      case rel => exact ⟨k + 1, by go_num, hkl, rfl, by rw [HTK.out]; exact HO7.out, HB7.out⟩
    · obtain rfl : k = l.length := by omega
      have HO := Lib.hid hO.rd
      have HB := Lib.hid hB
      have HTL : Hid (l.take l.length = l) := Lib.hid List.take_length
      clear hO hB
      go_wp2
      go_ret
      exact ⟨_, rfl, by rw [← HTL.out]; simpa using HO.out, HB.out⟩
def STPost (w : World) (e : Ending) (w' : World) : Prop := e = .returned (.bool true) ∧ Below w.heap.size w w'
set_option maxRecDepth 100000 in
set_option maxHeartbeats 4000000 in
theorem SameTrail_same (va vb : Value) (l : EntL) (hb : ∀ e ∈ l, RcpB e.r) (hl : l.length ≤ 1000000) (w : World) (ha : RdT w w.heap.size va l) (hbv : RdT w w.heap.size vb l) :
    Calls Tryz.prog 22 #[va, vb] w (STPost w) := by
  obtain ⟨A, c, hvA, _, S, hS, hx⟩ := ha.form
  subst hvA
  obtain ⟨A', c', hvA', _, S', hS', hx'⟩ := hbv.form
  subst hvA'
  have HX := Lib.hid hx
  have HS := Lib.hid hS
  have HX' := Lib.hid hx'
  have HS' := Lib.hid hS'
  have HRB := Lib.hid hb
  clear ha hbv hx hS hx' hS' hb
  have hll : ((l.length : Int) != (l.length : Int)) = false := by simp
  go_enter Tryz.func22, Tryz.ntmps22
  go_wp2
  go_loopg [5] l.length (fun gh vi wr => ∃ k : Nat, vi = .int .i64 k ∧ k ≤ l.length ∧ gh = l.length - k ∧ Below w.heap.size w wr)
  case atStart => exact ⟨0, rfl, Nat.zero_le _, rfl, Below.refl _ _⟩
  case round =>
    obtain ⟨k, rfl, hk, hgm, hB⟩ := hrel
    by_cases hkl : k < l.length
    · obtain ⟨g, o, rfl, hg, hcell⟩ := HX.out (by omega)
      obtain ⟨c0, c1, c2, c3, c4⟩ := hcell k hkl
      obtain ⟨g', o', rfl, hg', hcell'⟩ := HX'.out (by omega)
      obtain ⟨e0, e1, e2, e3, e4⟩ := hcell' k hkl
      have b1 : (0 : Int) ≤ (k : Int) := by omega
      have b2 : (k : Int) < (l.length : Int) := by omega
      have HSK := Lib.hid (((HS.out k hkl).keep hB (Nat.le_refl _)).more hB.size)
      have HSK' := Lib.hid (((HS'.out k hkl).keep hB (Nat.le_refl _)).more hB.size)
      have HBk := Lib.hid (HRB.out l[k] (List.getElem_mem hkl))
      obtain ⟨SA, sc, hSA⟩ := HSK.out.slice
      obtain ⟨SA', sc', hSA'⟩ := HSK'.out.slice
      rw [hSA] at c4 HSK
      rw [hSA'] at e4 HSK'
      have D0 := Lib.hid ((hB.cell (p := ⟨g, o + k * 5, none⟩) hg).trans c0)
      have D1 := Lib.hid ((hB.cell (p := ⟨g, o + k * 5 + 1, none⟩) hg).trans c1)
      have D2 := Lib.hid ((hB.cell (p := ⟨g, o + k * 5 + 2, none⟩) hg).trans c2)
      have D3 := Lib.hid ((hB.cell (p := ⟨g, o + k * 5 + 3, none⟩) hg).trans c3)
      have D4 := Lib.hid ((hB.cell (p := ⟨g, o + k * 5 + 4, none⟩) hg).trans c4)
      have D0' := Lib.hid ((hB.cell (p := ⟨g', o' + k * 5, none⟩) hg').trans e0)
      have D1' := Lib.hid ((hB.cell (p := ⟨g', o' + k * 5 + 1, none⟩) hg').trans e1)
      have D2' := Lib.hid ((hB.cell (p := ⟨g', o' + k * 5 + 2, none⟩) hg').trans e2)
      have D3' := Lib.hid ((hB.cell (p := ⟨g', o' + k * 5 + 3, none⟩) hg').trans e3)
      have D4' := Lib.hid ((hB.cell (p := ⟨g', o' + k * 5 + 4, none⟩) hg').trans e4)
      have hgr : g < wr.heap.size := Nat.lt_of_lt_of_le hg hB.size
      have hgr' : g' < wr.heap.size := Nat.lt_of_lt_of_le hg' hB.size
      have HB := Lib.hid hB
      have hdd : (l[k].day != l[k].day) = false := by simp
      clear hcell hcell' c0 c1 c2 c3 c4 e0 e1 e2 e3 e4 hSA hSA' hB
      generalize hek : l[k] = ek at *
      go_wp2
      have hS0 : Below wr.heap.size wr wr.drew := (Below.refl _ _).drew
      refine region_S (fun w' => Below wr.heap.size wr w') 11 (by kernel_rfl) (by kernel_rfl) ?_
      refine take_S 0 rfl (by kernel_rfl) (by kernel_rfl) hS0 (fun w' hS => by have c0 := (hS.cell (p := ⟨g, o + k * 5, none⟩) hgr).trans D0.out; have c1 := (hS.cell (p := ⟨g, o + k * 5 + 1, none⟩) hgr).trans D1.out; have c2 := (hS.cell (p := ⟨g, o + k * 5 + 2, none⟩) hgr).trans D2.out; have c3 := (hS.cell (p := ⟨g, o + k * 5 + 3, none⟩) hgr).trans D3.out; have c4 := (hS.cell (p := ⟨g, o + k * 5 + 4, none⟩) hgr).trans D4.out; have c0' := (hS.cell (p := ⟨g', o' + k * 5, none⟩) hgr').trans D0'.out; have c1' := (hS.cell (p := ⟨g', o' + k * 5 + 1, none⟩) hgr').trans D1'.out; have c2' := (hS.cell (p := ⟨g', o' + k * 5 + 2, none⟩) hgr').trans D2'.out; have c3' := (hS.cell (p := ⟨g', o' + k * 5 + 3, none⟩) hgr').trans D3'.out; have c4' := (hS.cell (p := ⟨g', o' + k * 5 + 4, none⟩) hgr').trans D4'.out; go_simp; rfl) ?_
      refine take_S 1 rfl (by kernel_rfl) (by kernel_rfl) hS0 (fun w' hS => by have c0 := (hS.cell (p := ⟨g, o + k * 5, none⟩) hgr).trans D0.out; have c1 := (hS.cell (p := ⟨g, o + k * 5 + 1, none⟩) hgr).trans D1.out; have c2 := (hS.cell (p := ⟨g, o + k * 5 + 2, none⟩) hgr).trans D2.out; have c3 := (hS.cell (p := ⟨g, o + k * 5 + 3, none⟩) hgr).trans D3.out; have c4 := (hS.cell (p := ⟨g, o + k * 5 + 4, none⟩) hgr).trans D4.out; have c0' := (hS.cell (p := ⟨g', o' + k * 5, none⟩) hgr').trans D0'.out; have c1' := (hS.cell (p := ⟨g', o' + k * 5 + 1, none⟩) hgr').trans D1'.out; have c2' := (hS.cell (p := ⟨g', o' + k * 5 + 2, none⟩) hgr').trans D2'.out; have c3' := (hS.cell (p := ⟨g', o' + k * 5 + 3, none⟩) hgr').trans D3'.out; have c4' := (hS.cell (p := ⟨g', o' + k * 5 + 4, none⟩) hgr').trans D4'.out; go_simp; rfl) ?_
      refine take_S 2 rfl (by kernel_rfl) (by kernel_rfl) hS0 (fun w' hS => by have c0 := (hS.cell (p := ⟨g, o + k * 5, none⟩) hgr).trans D0.out; have c1 := (hS.cell (p := ⟨g, o + k * 5 + 1, none⟩) hgr).trans D1.out; have c2 := (hS.cell (p := ⟨g, o + k * 5 + 2, none⟩) hgr).trans D2.out; have c3 := (hS.cell (p := ⟨g, o + k * 5 + 3, none⟩) hgr).trans D3.out; have c4 := (hS.cell (p := ⟨g, o + k * 5 + 4, none⟩) hgr).trans D4.out; have c0' := (hS.cell (p := ⟨g', o' + k * 5, none⟩) hgr').trans D0'.out; have c1' := (hS.cell (p := ⟨g', o' + k * 5 + 1, none⟩) hgr').trans D1'.out; have c2' := (hS.cell (p := ⟨g', o' + k * 5 + 2, none⟩) hgr').trans D2'.out; have c3' := (hS.cell (p := ⟨g', o' + k * 5 + 3, none⟩) hgr').trans D3'.out; have c4' := (hS.cell (p := ⟨g', o' + k * 5 + 4, none⟩) hgr').trans D4'.out; go_simp; rfl) ?_
      refine take_S 3 rfl (by kernel_rfl) (by kernel_rfl) hS0 (fun w' hS => by have c0 := (hS.cell (p := ⟨g, o + k * 5, none⟩) hgr).trans D0.out; have c1 := (hS.cell (p := ⟨g, o + k * 5 + 1, none⟩) hgr).trans D1.out; have c2 := (hS.cell (p := ⟨g, o + k * 5 + 2, none⟩) hgr).trans D2.out; have c3 := (hS.cell (p := ⟨g, o + k * 5 + 3, none⟩) hgr).trans D3.out; have c4 := (hS.cell (p := ⟨g, o + k * 5 + 4, none⟩) hgr).trans D4.out; have c0' := (hS.cell (p := ⟨g', o' + k * 5, none⟩) hgr').trans D0'.out; have c1' := (hS.cell (p := ⟨g', o' + k * 5 + 1, none⟩) hgr').trans D1'.out; have c2' := (hS.cell (p := ⟨g', o' + k * 5 + 2, none⟩) hgr').trans D2'.out; have c3' := (hS.cell (p := ⟨g', o' + k * 5 + 3, none⟩) hgr').trans D3'.out; have c4' := (hS.cell (p := ⟨g', o' + k * 5 + 4, none⟩) hgr').trans D4'.out; go_simp; rfl) ?_
      refine take_S 4 rfl (by kernel_rfl) (by kernel_rfl) hS0 (fun w' hS => by have c0 := (hS.cell (p := ⟨g, o + k * 5, none⟩) hgr).trans D0.out; have c1 := (hS.cell (p := ⟨g, o + k * 5 + 1, none⟩) hgr).trans D1.out; have c2 := (hS.cell (p := ⟨g, o + k * 5 + 2, none⟩) hgr).trans D2.out; have c3 := (hS.cell (p := ⟨g, o + k * 5 + 3, none⟩) hgr).trans D3.out; have c4 := (hS.cell (p := ⟨g, o + k * 5 + 4, none⟩) hgr).trans D4.out; have c0' := (hS.cell (p := ⟨g', o' + k * 5, none⟩) hgr').trans D0'.out; have c1' := (hS.cell (p := ⟨g', o' + k * 5 + 1, none⟩) hgr').trans D1'.out; have c2' := (hS.cell (p := ⟨g', o' + k * 5 + 2, none⟩) hgr').trans D2'.out; have c3' := (hS.cell (p := ⟨g', o' + k * 5 + 3, none⟩) hgr').trans D3'.out; have c4' := (hS.cell (p := ⟨g', o' + k * 5 + 4, none⟩) hgr').trans D4'.out; go_simp; rfl) ?_
      refine take_S 5 rfl (by kernel_rfl) (by kernel_rfl) hS0 (fun w' hS => by have c0 := (hS.cell (p := ⟨g, o + k * 5, none⟩) hgr).trans D0.out; have c1 := (hS.cell (p := ⟨g, o + k * 5 + 1, none⟩) hgr).trans D1.out; have c2 := (hS.cell (p := ⟨g, o + k * 5 + 2, none⟩) hgr).trans D2.out; have c3 := (hS.cell (p := ⟨g, o + k * 5 + 3, none⟩) hgr).trans D3.out; have c4 := (hS.cell (p := ⟨g, o + k * 5 + 4, none⟩) hgr).trans D4.out; have c0' := (hS.cell (p := ⟨g', o' + k * 5, none⟩) hgr').trans D0'.out; have c1' := (hS.cell (p := ⟨g', o' + k * 5 + 1, none⟩) hgr').trans D1'.out; have c2' := (hS.cell (p := ⟨g', o' + k * 5 + 2, none⟩) hgr').trans D2'.out; have c3' := (hS.cell (p := ⟨g', o' + k * 5 + 3, none⟩) hgr').trans D3'.out; have c4' := (hS.cell (p := ⟨g', o' + k * 5 + 4, none⟩) hgr').trans D4'.out; go_simp; rfl) ?_
      refine take_S 6 rfl (by kernel_rfl) (by kernel_rfl) hS0 (fun w' hS => by have c0 := (hS.cell (p := ⟨g, o + k * 5, none⟩) hgr).trans D0.out; have c1 := (hS.cell (p := ⟨g, o + k * 5 + 1, none⟩) hgr).trans D1.out; have c2 := (hS.cell (p := ⟨g, o + k * 5 + 2, none⟩) hgr).trans D2.out; have c3 := (hS.cell (p := ⟨g, o + k * 5 + 3, none⟩) hgr).trans D3.out; have c4 := (hS.cell (p := ⟨g, o + k * 5 + 4, none⟩) hgr).trans D4.out; have c0' := (hS.cell (p := ⟨g', o' + k * 5, none⟩) hgr').trans D0'.out; have c1' := (hS.cell (p := ⟨g', o' + k * 5 + 1, none⟩) hgr').trans D1'.out; have c2' := (hS.cell (p := ⟨g', o' + k * 5 + 2, none⟩) hgr').trans D2'.out; have c3' := (hS.cell (p := ⟨g', o' + k * 5 + 3, none⟩) hgr').trans D3'.out; have c4' := (hS.cell (p := ⟨g', o' + k * 5 + 4, none⟩) hgr').trans D4'.out; go_simp; rfl) ?_
      refine take_S 7 rfl (by kernel_rfl) (by kernel_rfl) hS0 (fun w' hS => by have c0 := (hS.cell (p := ⟨g, o + k * 5, none⟩) hgr).trans D0.out; have c1 := (hS.cell (p := ⟨g, o + k * 5 + 1, none⟩) hgr).trans D1.out; have c2 := (hS.cell (p := ⟨g, o + k * 5 + 2, none⟩) hgr).trans D2.out; have c3 := (hS.cell (p := ⟨g, o + k * 5 + 3, none⟩) hgr).trans D3.out; have c4 := (hS.cell (p := ⟨g, o + k * 5 + 4, none⟩) hgr).trans D4.out; have c0' := (hS.cell (p := ⟨g', o' + k * 5, none⟩) hgr').trans D0'.out; have c1' := (hS.cell (p := ⟨g', o' + k * 5 + 1, none⟩) hgr').trans D1'.out; have c2' := (hS.cell (p := ⟨g', o' + k * 5 + 2, none⟩) hgr').trans D2'.out; have c3' := (hS.cell (p := ⟨g', o' + k * 5 + 3, none⟩) hgr').trans D3'.out; have c4' := (hS.cell (p := ⟨g', o' + k * 5 + 4, none⟩) hgr').trans D4'.out; go_simp; rfl) ?_
      refine take_S 8 rfl (by kernel_rfl) (by kernel_rfl) hS0 (fun w' hS => by have c0 := (hS.cell (p := ⟨g, o + k * 5, none⟩) hgr).trans D0.out; have c1 := (hS.cell (p := ⟨g, o + k * 5 + 1, none⟩) hgr).trans D1.out; have c2 := (hS.cell (p := ⟨g, o + k * 5 + 2, none⟩) hgr).trans D2.out; have c3 := (hS.cell (p := ⟨g, o + k * 5 + 3, none⟩) hgr).trans D3.out; have c4 := (hS.cell (p := ⟨g, o + k * 5 + 4, none⟩) hgr).trans D4.out; have c0' := (hS.cell (p := ⟨g', o' + k * 5, none⟩) hgr').trans D0'.out; have c1' := (hS.cell (p := ⟨g', o' + k * 5 + 1, none⟩) hgr').trans D1'.out; have c2' := (hS.cell (p := ⟨g', o' + k * 5 + 2, none⟩) hgr').trans D2'.out; have c3' := (hS.cell (p := ⟨g', o' + k * 5 + 3, none⟩) hgr').trans D3'.out; have c4' := (hS.cell (p := ⟨g', o' + k * 5 + 4, none⟩) hgr').trans D4'.out; go_simp; rfl) ?_
      refine take_S 9 rfl (by kernel_rfl) (by kernel_rfl) hS0 (fun w' hS => by have c0 := (hS.cell (p := ⟨g, o + k * 5, none⟩) hgr).trans D0.out; have c1 := (hS.cell (p := ⟨g, o + k * 5 + 1, none⟩) hgr).trans D1.out; have c2 := (hS.cell (p := ⟨g, o + k * 5 + 2, none⟩) hgr).trans D2.out; have c3 := (hS.cell (p := ⟨g, o + k * 5 + 3, none⟩) hgr).trans D3.out; have c4 := (hS.cell (p := ⟨g, o + k * 5 + 4, none⟩) hgr).trans D4.out; have c0' := (hS.cell (p := ⟨g', o' + k * 5, none⟩) hgr').trans D0'.out; have c1' := (hS.cell (p := ⟨g', o' + k * 5 + 1, none⟩) hgr').trans D1'.out; have c2' := (hS.cell (p := ⟨g', o' + k * 5 + 2, none⟩) hgr').trans D2'.out; have c3' := (hS.cell (p := ⟨g', o' + k * 5 + 3, none⟩) hgr').trans D3'.out; have c4' := (hS.cell (p := ⟨g', o' + k * 5 + 4, none⟩) hgr').trans D4'.out; go_simp; rfl) ?_
      refine carry_S 10 rfl (by kernel_rfl) (by decide) (by kernel_rfl) (fun K hK => ?_)
      go_simp
      refine (SameRecipe_same (rcpAgg ek.r (.slice SA ek.r.ids.length sc)) (rcpAgg ek.r (.slice SA' ek.r.ids.length sc')) ek.r HBk.out.c wr.drew ⟨_, rfl, (HSK.out.keep hS0 (Nat.le_refl _)).more hS0.size⟩ ⟨_, rfl, (HSK'.out.keep hS0 (Nat.le_refl _)).more hS0.size⟩).mono ?_
      rintro e w4 ⟨rfl, hb4⟩
      have hS4 : Below wr.heap.size wr w4 := hS0.trans (hb4.mono hS0.size)
      refine hK _ _ hS4 (forced_S (by kernel_rfl) ?_)
      clear hK K hb4
      try simp only [Act.put, List.getElem_toArray, List.getElem_cons_succ, List.getElem_cons_zero, List.setIfInBounds_toArray, List.set_cons_zero, List.set_cons_succ]
      simp only [List.drop_succ_cons, List.drop_zero]
      have HB4 := Lib.hid (HB.out.trans (hS4.mono HB.out.size))
      have x0 := (hS4.cell (p := ⟨g, o + k * 5, none⟩) hgr).trans D0.out
      have x1 := (hS4.cell (p := ⟨g', o' + k * 5, none⟩) hgr').trans D0'.out
      go_wp2
      go_quiet (fail)
      go_wp2
      go_roundg (l.length - (k + 1))
      case measure => omega
      case rel => exact ⟨k + 1, by go_num, hkl, rfl, below_drewN HB4.out _⟩
    · obtain rfl : k = l.length := by omega
      have HB := Lib.hid hB
      clear hB
      go_wp2
      go_ret
      exact ⟨rfl, HB.out⟩
end Go.Proofs.YtbokckjlgjnnjaaGreatDoor

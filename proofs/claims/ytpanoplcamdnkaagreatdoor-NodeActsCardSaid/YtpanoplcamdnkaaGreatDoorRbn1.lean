/- RbA, RbD, RbS, RbP in one text. Conditions: as each part says. -/
import Derived.Test.YtpanoplcamdnkaaGreatDoorHlds
import Derived.Deep.LoopGhost
import Derived.Test.YtpanoplcamdnkaaGreatDoorPrR
import Derived.Test.YtpanoplcamdnkaaGreatDoorIds1
/- The reference's Bin: what it is in memory; walks of Find, Size, SameHelds. No conditions but bounds. -/
namespace Go.Proofs.YtpanoplcamdnkaaGreatDoor
open Go.RowKit Go.Lib

/-- the reference's bin in block rb, its list in the slice v, a row from base on -/
structure RBin (rb base : Nat) (v : Value) (L : HldL) (w : World) : Prop where
  row : w.heap[rb]? = some (.cells #[v] 174 (0, 0))
  own : w.ownsRow base 82 4 v L.length (hldRow L)
  ne : ∀ b, v.ownBlock = some b → b ≠ rb
theorem RBin.lt {rb base : Nat} {v : Value} {L : HldL} {w : World} (h : RBin rb base v L w) : rb < w.heap.size := (Array.getElem?_eq_some_iff.1 h.row).1
theorem RBin.cell {rb base : Nat} {v : Value} {L : HldL} {w : World} (h : RBin rb base v L w) : w.cell? ⟨rb, 0, none⟩ = some v := by rw [cell_of_row w rb 0 _ _ _ h.row]; rfl
theorem RBin.below {rb base : Nat} {v : Value} {L : HldL} {w w' : World} (h : RBin rb base v L w) (hb : Below w.heap.size w w') : RBin rb base v L w' := ⟨(hb.block rb h.lt).trans h.row, own_belowI h.own hb, h.ne⟩
/-- where an ID stands first, or nowhere -/
def Stands (L : HldL) (x : Idn) (k : Nat) : Prop := ∃ hk : k < L.length, L[k].id = x ∧ ∀ j (hj : j < L.length), j < k → L[j].id ≠ x
def Nowhere (L : HldL) (x : Idn) : Prop := ∀ j (hj : j < L.length), L[j].id ≠ x
def RFindPost (L : HldL) (x : Idn) (w : World) (e : Ending) (w' : World) : Prop :=
  Below w.heap.size w w' ∧ ((∃ k : Nat, Stands L x k ∧ e = .returned (.int .i64 k)) ∨ (Nowhere L x ∧ e = .returned (.int .i64 (-1))))
set_option maxRecDepth 100000 in
set_option maxHeartbeats 1000000 in
theorem RBFind_any (rb base : Nat) (v : Value) (L : HldL) (hL : L.length ≤ 2 ^ 40) (x : Idn) (w : World) (h : RBin rb base v L w) :
    Calls Tryz.prog 156 #[.pointer (some ⟨rb, 0, none⟩), idV x] w (RFindPost L x w) := by
  have hb0 : Below w.heap.size w (w.alloc (.cells #[.int .u32 (x.1 : Int), .int .i64 x.2] 47)) := (Below.refl _ w).alloc (Nat.le_refl _) _
  have hx0 : Box2 w.heap.size (.int .u32 (x.1 : Int)) (.int .i64 x.2) (w.alloc (.cells #[.int .u32 (x.1 : Int), .int .i64 x.2] 47)) := Box2.mk' _ _ _ _
  have HC0 := Lib.hid (h.below hb0).cell
  have HRB := Lib.hid h.lt
  obtain ⟨A, c, rfl, hr⟩ := own_rdH h.own
  have HR := Lib.hid (hr.below hb0)
  have HB0 := Lib.hid hb0
  have HX0 := Lib.hid hx0
  clear hr h hb0 hx0
  go_enter Tryz.func156, Tryz.ntmps156
  go_wp2
  generalize hw0 : w.alloc (.cells #[.int .u32 (x.1 : Int), .int .i64 x.2] 47) = w0 at *
  clear hw0
  go_loopg [5] L.length (fun gh vi wr => ∃ k : Nat, vi = .int .i64 k ∧ k ≤ L.length ∧ gh = L.length - k ∧ Hid (∀ j (hj : j < L.length), j < k → L[j].id ≠ x) ∧ Below w0.heap.size w0 wr)
  case atStart => exact ⟨0, rfl, Nat.zero_le _, rfl, Lib.hid (fun j _ h => absurd h (Nat.not_lt_zero _)), Below.refl _ _⟩
  case round =>
    obtain ⟨k, rfl, hk, hgm, hno, hB⟩ := hrel
    have HBR := Lib.hid (HB0.out.trans (hB.mono HB0.out.size))
    have hrl : rb < w0.heap.size := Nat.lt_of_lt_of_le HRB.out HB0.out.size
    have c0 := (hB.cell (p := ⟨rb, 0, none⟩) hrl).trans HC0.out
    by_cases hkl : k < L.length
    · obtain ⟨g, rfl, hg, hcells⟩ := HR.out (by omega)
      obtain ⟨c1, c2, _, _⟩ := hcells k hkl
      have hg0 : g < w0.heap.size := Nat.lt_of_lt_of_le hg HB0.out.size
      have d1 := (hB.cell (p := ⟨g, k * 4, none⟩) hg0).trans c1
      have d2 := (hB.cell (p := ⟨g, k * 4 + 1, none⟩) hg0).trans c2
      obtain ⟨x0, x1, _, _⟩ := HX0.out.below hB HX0.out.lt
      have b1 : (0 : Int) ≤ (k : Int) := by omega
      have b2 : (k : Int) < (L.length : Int) := by omega
      clear c1 c2 hcells
      by_cases he : L[k].id = x
      · obtain ⟨t1, t2⟩ := idq_eqs he
        have HP : Hid (∀ w', Below w.heap.size w w' → RFindPost L x w (.returned (.int .i64 k)) w') := Lib.hid fun w' hb => ⟨hb, .inl ⟨k, ⟨hkl, he, hno.out⟩, rfl⟩⟩
        clear he hno
        go_wp2
        go_region
        go_wp2
        go_ret
        exact HP.out _ HBR.out.drew
      · have HN : Hid (∀ j (hj : j < L.length), j < k + 1 → L[j].id ≠ x) := Lib.hid fun j hj h => by
          rcases Nat.lt_or_ge j k with h1 | h1
          · exact hno.out j hj h1
          · obtain rfl : j = k := by omega
            exact he
        have hne := idq_ne he
        clear he hno
        rcases hne with t1 | ⟨t1, t2⟩
        · go_wp2
          go_region
          go_wp2
          go_roundg (L.length - (k + 1))
          case measure => omega
          case rel => exact ⟨k + 1, by go_num, hkl, rfl, HN, hB.drew⟩
        · go_wp2
          go_region
          go_wp2
          go_roundg (L.length - (k + 1))
          case measure => omega
          case rel => exact ⟨k + 1, by go_num, hkl, rfl, HN, hB.drew⟩
    · obtain rfl : k = L.length := by omega
      have HP : Hid (RFindPost L x w (.returned (.int .i64 (-1))) wr) := Lib.hid ⟨HBR.out, .inr ⟨fun j hj => hno.out j hj hj, rfl⟩⟩
      go_wp2
      go_ret
      exact HP.out
theorem sizeB_take {L : HldL} {k : Nat} (h : k < L.length) : sizeB (L.take (k + 1)) = sizeB (L.take k) + L[k].id.2 := by
  unfold sizeB
  rw [List.take_succ_eq_append_getElem h, List.map_append, List.sum_append]; simp
set_option maxRecDepth 100000 in
set_option maxHeartbeats 1000000 in
theorem RBSize_any (rb base : Nat) (v : Value) (L : HldL) (hL : L.length ≤ 2 ^ 40) (hsz : ∀ x ∈ L, 0 ≤ x.id.2 ∧ x.id.2 ≤ 64) (w : World) (h : RBin rb base v L w) :
    Calls Tryz.prog 157 #[.pointer (some ⟨rb, 0, none⟩)] w fun e w' => e = .returned (.int .i64 (sizeB L)) ∧ w = w' := by
  have c0 := h.cell
  obtain ⟨A, c, rfl, hr⟩ := own_rdH h.own
  have HR := Lib.hid hr
  have HSZ : Hid (∀ k, 0 ≤ sizeB (L.take k) ∧ sizeB (L.take k) ≤ 64 * L.length) := Lib.hid fun k => by
    have h1 := sizeB_bound (L := L.take k) fun x hx => hsz x (List.mem_of_mem_take hx)
    rw [List.length_take] at h1
    omega
  have HEL := Lib.hid hsz
  clear hr h hsz
  go_enter Tryz.func157, Tryz.ntmps157
  go_wp2
  go_loopg [3, 4] L.length (fun gh vs vi wr => ∃ k : Nat, vi = .int .i64 k ∧ vs = .int .i64 (sizeB (L.take k)) ∧ k ≤ L.length ∧ gh = L.length - k ∧ w = wr)
  case atStart => exact ⟨0, rfl, rfl, Nat.zero_le _, rfl, rfl⟩
  case round =>
    obtain ⟨k, rfl, rfl, hk, hgm, rfl⟩ := hrel
    by_cases hkl : k < L.length
    · obtain ⟨g, rfl, hg, hcells⟩ := HR.out (by omega)
      obtain ⟨_, c2, _, _⟩ := hcells k hkl
      have b1 : (0 : Int) ≤ (k : Int) := by omega
      have b2 : (k : Int) < (L.length : Int) := by omega
      have hws : IntKind.i64.wrap (sizeB (L.take k) + L[k].id.2) = sizeB (L.take (k + 1)) := by
        rw [sizeB_take hkl]
        have h1 := HSZ.out k
        have h2 := HEL.out L[k] (List.getElem_mem hkl)
        exact IntWalk.i64_in _ (by omega)
      clear hcells
      go_wp2
      go_roundg (L.length - (k + 1))
      case measure => omega
      case rel => exact ⟨k + 1, by go_num, rfl, hkl, rfl, rfl⟩
    · obtain rfl : k = L.length := by omega
      rw [List.take_length]
      go_wp2
      go_ret
      exact ⟨rfl, rfl⟩
end Go.Proofs.YtpanoplcamdnkaaGreatDoor
/- The reference's Bin: walk of Drop. No conditions but bounds. -/
namespace Go.Proofs.YtpanoplcamdnkaaGreatDoor
open Go.RowKit Go.Lib

/-- all but block rb, the row of v, and new ones stands -/
structure BFrame (rb : Nat) (v : Value) (w w' : World) : Prop where
  os : w'.os = w.os
  tape : w'.tape = w.tape
  output : w'.output = w.output
  size : w.heap.size ≤ w'.heap.size
  block : ∀ k, k < w.heap.size → k ≠ rb → v.ownBlock ≠ some k → w'.heap[k]? = w.heap[k]?
theorem BFrame.of_below {rb : Nat} {v : Value} {w w' : World} (hb : Below w.heap.size w w') : BFrame rb v w w' := ⟨hb.os, hb.tape, hb.output, hb.size, fun k hk _ _ => hb.block k hk⟩
theorem getB_stands {L : HldL} {x : Idn} {k : Nat} (h : Stands L x k) : getB L x = some (L[k]'h.1) := by
  obtain ⟨hk, he, hno⟩ := h
  unfold getB
  rw [List.find?_eq_some_iff_append]
  refine ⟨by simpa using he, L.take k, L.drop (k + 1), ?_, fun a ha => ?_⟩
  · rw [← List.drop_eq_getElem_cons hk, List.take_append_drop]
  · obtain ⟨j, hj, rfl⟩ := List.mem_take_iff_getElem.1 ha
    have hjl : j < L.length := by omega
    have := hno j hjl (by omega)
    simpa using this
theorem getB_nowhere {L : HldL} {x : Idn} (h : Nowhere L x) : getB L x = none := getB_none.2 fun y hy => by
  obtain ⟨j, hj, rfl⟩ := List.getElem_of_mem hy
  exact h j hj
theorem setB_stands : ∀ {L : HldL} (_ : SrtB L) (y : Hld) (k : Nat) (_ : Stands L y.id k), setB y L = L.set k y
  | [], _, y, k, h => absurd h.1 (Nat.not_lt_zero _)
  | a :: r, hs, y, 0, h => by
    obtain ⟨hk, he, _⟩ := h
    have he : a.id = y.id := he
    unfold setB
    rw [if_pos he]; rfl
  | a :: r, hs, y, k + 1, h => by
    obtain ⟨hk, he, hno⟩ := h
    obtain ⟨h1, h2⟩ := srtB_cons.1 hs
    have hk' : k < r.length := by simpa using hk
    have he' : r[k].id = y.id := he
    have hne : a.id ≠ y.id := hno 0 (by simp) (by omega)
    have hlt : lesser a.id y.id = true := by rw [← he']; exact h1 _ (List.getElem_mem hk')
    have hnl : ¬ lesser y.id a.id = true := fun e => by
      have := lesser_trans hlt e
      rw [lesser_irrefl] at this; cases this
    unfold setB
    rw [if_neg hne, if_neg hnl, setB_stands h2 y k ⟨hk', he', fun j hj hjk => hno (j + 1) (by simpa using hj) (by omega)⟩]
    rfl
theorem hldRow_uses : ∀ (L : HldL) (k : Nat) (hk : k < L.length) (u : Int), hldRow (L.set k ⟨L[k].id, u, L[k].text⟩) = (hldRow L).set (k * 4 + 2) (.int .i64 u)
  | [], k, h, _ => absurd h (by simp)
  | x :: r, 0, _, u => rfl
  | x :: r, k + 1, h, u => by
    have hk' : k < r.length := by simpa using h
    have ih := hldRow_uses r k hk' u
    have e1 : (k + 1) * 4 + 2 = k * 4 + 2 + 1 + 1 + 1 + 1 := by omega
    show hldC x ++ hldRow (r.set k ⟨r[k].id, u, r[k].text⟩) = (hldC x ++ hldRow r).set ((k + 1) * 4 + 2) (.int .i64 u)
    rw [ih, e1]
    rfl
def RDropPost (rb base : Nat) (v : Value) (L : HldL) (x : Idn) (w : World) (e : Ending) (w' : World) : Prop :=
  e = .returned (.int .i64 (dropB x L).2) ∧ RBin rb base v (dropB x L).1 w' ∧ BFrame rb v w w'
theorem rdrop_none {rb base : Nat} {v : Value} {L : HldL} {x : Idn} {w w' : World} (hn : Nowhere L x) (h : RBin rb base v L w') (hb : Below w.heap.size w w') : RDropPost rb base v L x w (.returned (.int .i64 5)) w' := by
  have e : dropB x L = (L, 5) := by unfold dropB; rw [getB_nowhere hn]
  exact ⟨by rw [e], by rw [e]; exact h, .of_below hb⟩
theorem rdrop_zero {rb base : Nat} {v : Value} {L : HldL} {x : Idn} {k : Nat} {w w' : World} (hs : Stands L x k) (hu : (L[k]'hs.1).uses = 0) (h : RBin rb base v L w') (hb : Below w.heap.size w w') : RDropPost rb base v L x w (.returned (.int .i64 11)) w' := by
  have e : dropB x L = (L, 11) := by unfold dropB; rw [getB_stands hs]; exact if_pos hu
  exact ⟨by rw [e], by rw [e]; exact h, .of_below hb⟩
theorem set_keepB {w : World} {d o k : Nat} {x : Value} (h : k ≠ d) : (w.setCell ⟨d, o, none⟩ x).heap[k]? = w.heap[k]? := by simp [World.setCell, Array.getElem?_modify, Ne.symm h]
theorem rdrop_ok {rb base g c : Nat} {L : HldL} (hS : SrtB L) {x : Idn} {k : Nat} {w w' : World} (hs : Stands L x k) (hu : (L[k]'hs.1).uses ≠ 0) (h : RBin rb base (.slice (some ⟨g, 0, none⟩) L.length c) L w') (hb : Below w.heap.size w w') :
    RDropPost rb base (.slice (some ⟨g, 0, none⟩) L.length c) L x w (.returned (.int .i64 0)) (w'.setCell ⟨g, k * 4 + 2, none⟩ (.int .i64 ((L[k]'hs.1).uses - 1))) := by
  have hk := hs.1
  have he : L[k].id = x := hs.2.1
  have e : dropB x L = (L.set k ⟨L[k].id, L[k].uses - 1, L[k].text⟩, 0) := by
    unfold dropB; rw [getB_stands hs]
    show (if L[k].uses = 0 then _ else _) = _
    rw [if_neg hu, setB_stands hS ⟨L[k].id, L[k].uses - 1, L[k].text⟩ k (by show Stands L L[k].id k; rw [he]; exact hs)]
  have hgr : g ≠ rb := h.ne g rfl
  obtain ⟨o1, _⟩ := h.own.stored (k * 4 + 2) (.int .i64 (L[k].uses - 1))
  refine ⟨by rw [e], by rw [e]; exact ⟨(set_keepB (Ne.symm hgr)).trans h.row, by rw [hldRow_uses L k hk, List.length_set]; exact o1, h.ne⟩, hb.os, hb.tape, hb.output, by have := hb.size; simpa [World.setCell] using this, fun j hj h1 h2 => ?_⟩
  have hjg : j ≠ g := fun e => h2 (by rw [e]; rfl)
  exact (set_keepB hjg).trans (hb.block j hj)
set_option maxRecDepth 100000 in
set_option maxHeartbeats 1000000 in
theorem RBDrop_any (rb base : Nat) (v : Value) (L : HldL) (n : Int) (hn : n ≤ 4611686018427387904) (hL : BinOk n L) (hl : L.length ≤ 1000000) (x : Idn) (w : World) (h : RBin rb base v L w) :
    Calls Tryz.prog 153 #[.pointer (some ⟨rb, 0, none⟩), idV x] w (RDropPost rb base v L x w) := by
  have hb0 : Below w.heap.size w (w.alloc (.cells #[.int .u32 (x.1 : Int), .int .i64 x.2] 47)) := (Below.refl _ w).alloc (Nat.le_refl _) _
  have hx0 : Box2 w.heap.size (.int .u32 (x.1 : Int)) (.int .i64 x.2) (w.alloc (.cells #[.int .u32 (x.1 : Int), .int .i64 x.2] 47)) := Box2.mk' _ _ _ _
  have HR0 := Lib.hid (h.below hb0)
  have FIND := Lib.hid (RBFind_any rb base v L (by omega) x (w.alloc (.cells #[.int .u32 (x.1 : Int), .int .i64 x.2] 47)) HR0.out)
  have HB0 := Lib.hid hb0
  have HOK := Lib.hid hL
  obtain ⟨x0, x1, _, _⟩ := hx0
  clear h hb0 hL
  go_enter Tryz.func153, Tryz.ntmps153
  go_wp2_with fail
  refine FIND.out.mono ?_
  clear x0 x1
  rintro e w1 ⟨hb1, hcase⟩
  have HR1 := Lib.hid (HR0.out.below hb1)
  have HB1 := Lib.hid (HB0.out.trans (hb1.mono HB0.out.size))
  clear hb1 HR0 HB0 FIND
  rcases hcase with ⟨k, hs, rfl⟩ | ⟨hno, rfl⟩
  · have c0 := HR1.out.cell
    have HS := Lib.hid hs
    have ho := HR1.out.own
    have hk := hs.1
    obtain ⟨A, c, rfl, hr⟩ := own_rdH ho
    obtain ⟨g, rfl, hg, hcells⟩ := hr (by omega)
    obtain ⟨_, _, c2, _⟩ := hcells k hk
    have f2 := ho.frozenAt (k * 4 + 2)
    have b1 : (0 : Int) ≤ (k : Int) := by omega
    have b2 : (k : Int) < (L.length : Int) := by omega
    have hus := (HOK.out.all L[k] (List.getElem_mem hk)).uses
    have hws : IntKind.i64.wrap (L[k].uses - 1) = L[k].uses - 1 := IntWalk.i64_in _ (by omega)
    clear hcells hr hs
    by_cases hu : L[k].uses = 0
    · have HP := Lib.hid (rdrop_zero (w := w) HS.out hu HR1.out HB1.out)
      have hui : (L[k].uses == 0) = true := by rw [hu]; rfl
      clear hu hws ho
      go_wp2
      go_ret
      exact HP.out
    · have HP := Lib.hid (rdrop_ok (w := w) HOK.out.srt HS.out hu HR1.out HB1.out)
      have hui : (L[k].uses == 0) = false := by simpa using hu
      have HWS := Lib.hid hws
      clear hu ho hws
      go_wp2
      go_ret
      exact HP.out
  · have HP := Lib.hid (rdrop_none (w := w) hno HR1.out HB1.out)
    clear hno
    go_wp2
    go_ret
    exact HP.out
end Go.Proofs.YtpanoplcamdnkaaGreatDoor
/- The reference's Bin: walk of Sweep. No conditions but bounds. -/
namespace Go.Proofs.YtpanoplcamdnkaaGreatDoor
open Go.RowKit Go.Lib

theorem keepB_next {L : HldL} {k : Nat} (hk : k < L.length) (p : Hld → Bool) : (L.take (k + 1)).filter p = (L.take k).filter p ++ (if p L[k] = true then [L[k]] else []) := by
  rw [List.take_succ_eq_append_getElem hk, List.filter_append]
  congr 1
  rw [List.filter_cons]; split <;> rfl
theorem keepB_yes {L : HldL} {k : Nat} (hk : k < L.length) (p : Hld → Bool) (h : p L[k] = true) : (L.take (k + 1)).filter p = (L.take k).filter p ++ [L[k]] := by rw [keepB_next hk, if_pos h]
theorem keepB_no {L : HldL} {k : Nat} (hk : k < L.length) (p : Hld → Bool) (h : p L[k] = false) : (L.take (k + 1)).filter p = (L.take k).filter p := by rw [keepB_next hk, if_neg (by rw [h]; simp), List.append_nil]
/-- what is freed of the first k -/
def freedB (L : HldL) (k : Nat) : Int := sizeB ((L.take k).filter fun h => !usedB h)
def keptB (L : HldL) (k : Nat) : HldL := (L.take k).filter usedB
theorem freedB_yes {L : HldL} {k : Nat} (hk : k < L.length) (h : L[k].uses = 0) : freedB L (k + 1) = freedB L k + L[k].id.2 := by
  unfold freedB
  rw [keepB_yes hk _ (by simp [usedB, h])]
  unfold sizeB; rw [List.map_append, List.sum_append]; simp
theorem freedB_no {L : HldL} {k : Nat} (hk : k < L.length) (h : L[k].uses ≠ 0) : freedB L (k + 1) = freedB L k := by
  unfold freedB; rw [keepB_no hk _ (by simp [usedB, h])]
theorem keptB_yes {L : HldL} {k : Nat} (hk : k < L.length) (h : L[k].uses ≠ 0) : keptB L (k + 1) = keptB L k ++ [L[k]] := keepB_yes hk _ (by simp [usedB, h])
theorem keptB_no {L : HldL} {k : Nat} (hk : k < L.length) (h : L[k].uses = 0) : keptB L (k + 1) = keptB L k := keepB_no hk _ (by simp [usedB, h])
theorem keptB_length (L : HldL) (k : Nat) : (keptB L k).length ≤ L.length := Nat.le_trans (List.length_filter_le _ _) (by rw [List.length_take]; omega)
theorem freedB_bound {n : Int} {L : HldL} (h : BinOk n L) (k : Nat) : 0 ≤ freedB L k ∧ freedB L k ≤ 64 * L.length := by
  have h1 := sizeB_bound (L := (L.take k).filter fun h => !usedB h) fun x hx => by
    have hx := h.all x (List.mem_of_mem_take (List.mem_filter.1 hx).1)
    have h2 := hx.len
    rw [hx.id]
    show (0 : Int) ≤ ((x.text.length : Nat) : Int) ∧ ((x.text.length : Nat) : Int) ≤ 64
    omega
  have h2 : ((L.take k).filter fun h => !usedB h).length ≤ L.length := Nat.le_trans (List.length_filter_le _ _) (by rw [List.length_take]; omega)
  unfold freedB; omega
def RSweepPost (rb base : Nat) (v : Value) (L : HldL) (w : World) (e : Ending) (w' : World) : Prop :=
  ∃ v', e = .returned (.int .i64 (sizeB (L.filter fun h => !usedB h))) ∧ RBin rb base v' (sweepB L) w' ∧ (∀ b, v'.ownBlock = some b → w.heap.size ≤ b) ∧ BFrame rb v w w'
theorem rsweep_ok {rb base : Nat} {v v' : Value} {L : HldL} {w wr : World} (h : RBin rb base v L w) (hbase : base ≤ w.heap.size) (hb : Below w.heap.size w wr) (ho : wr.ownsRow w.heap.size 82 4 v' (keptB L L.length).length (hldRow (keptB L L.length))) :
    RSweepPost rb base v L w (.returned (.int .i64 (freedB L L.length))) (wr.setCell ⟨rb, 0, none⟩ v') := by
  have hrl := h.lt
  have e : keptB L L.length = sweepB L := by unfold keptB sweepB; rw [List.take_length]
  have hrow : (wr.setCell ⟨rb, 0, none⟩ v').heap[rb]? = some (.cells #[v'] 174 (0, 0)) := by
    have := (hb.block rb hrl).trans h.row
    simp [World.setCell, Array.getElem?_modify, this]
  refine ⟨v', by unfold freedB; rw [List.take_length], ⟨hrow, ?_, fun b hbk e => ?_⟩, fun b hbk => own_ge ho hbk, hb.os, hb.tape, hb.output, by have := hb.size; simpa [World.setCell] using this, fun j hj h1 _ => (set_keepB h1).trans (hb.block j hj)⟩
  · rw [← e]
    exact own_setI (own_lower ho (Nat.le_refl _)) hrl |> fun h => own_lower h hbase
  · have := own_ge ho hbk; omega
set_option maxRecDepth 100000 in
set_option maxHeartbeats 2000000 in
theorem RBSweep_any (rb base : Nat) (v : Value) (L : HldL) (n : Int) (hL : BinOk n L) (hl : L.length ≤ 1000000) (w : World) (hbase : base ≤ w.heap.size) (h : RBin rb base v L w) :
    Calls Tryz.prog 155 #[.pointer (some ⟨rb, 0, none⟩)] w (RSweepPost rb base v L w) := by
  obtain ⟨i0, hi, hz0, hz1, hz2⟩ := info_parts info_held
  have HBIN := Lib.hid h
  have HBASE := Lib.hid hbase
  have HOK := Lib.hid hL
  have HC0 := Lib.hid h.cell
  have HF0 := Lib.hid (frozen_of_row w rb 0 _ _ h.row)
  have HRL := Lib.hid h.lt
  obtain ⟨A, c, rfl, hr⟩ := own_rdH h.own
  have HR := Lib.hid hr
  have c0 := HC0.out
  clear hr h hbase hL
  go_enter Tryz.func155, Tryz.ntmps155
  go_wp2
  go_loopg [3, 4, 5] L.length (fun gh vs vq vi wr => ∃ (k : Nat) (vk : Value), vk = vq ∧ vi = .int .i64 k ∧ vs = .int .i64 (freedB L k) ∧ k ≤ L.length ∧ gh = L.length - k ∧ wr.ownsRow w.heap.size 82 4 vk (keptB L k).length (hldRow (keptB L k)) ∧ Below w.heap.size w wr)
  case atStart => exact ⟨0, _, rfl, rfl, rfl, Nat.zero_le _, rfl, World.ownsRow_nil _ _ _ _, Below.refl _ _⟩
  case round =>
    obtain ⟨k, vk, rfl, rfl, rfl, hk, hgm, hrow, hB⟩ := hrel
    have c0 := (hB.cell (p := ⟨rb, 0, none⟩) HRL.out).trans HC0.out
    by_cases hkl : k < L.length
    · obtain ⟨g, rfl, hg, hcells⟩ := HR.out (by omega)
      obtain ⟨x0, x1, x2, x3⟩ := hcells k hkl
      have y0 := (hB.cell (p := ⟨g, k * 4, none⟩) hg).trans x0
      have y1 := (hB.cell (p := ⟨g, k * 4 + 1, none⟩) hg).trans x1
      have y2 := (hB.cell (p := ⟨g, k * 4 + 2, none⟩) hg).trans x2
      have y3 := (hB.cell (p := ⟨g, k * 4 + 3, none⟩) hg).trans x3
      have b1 : (0 : Int) ≤ (k : Int) := by omega
      have b2 : (k : Int) < (L.length : Int) := by omega
      clear x0 x1 x2 x3 hcells
      by_cases hu : L[k].uses = 0
      · have hui : (L[k].uses == 0) = true := by rw [hu]; rfl
        have hws : IntKind.i64.wrap (freedB L k + L[k].id.2) = freedB L (k + 1) := by
          have h1 := freedB_bound HOK.out (k + 1)
          rw [freedB_yes hkl hu] at h1 ⊢
          exact IntWalk.i64_in _ (by omega)
        have HROW : Hid (wr.ownsRow w.heap.size 82 4 vk (keptB L (k + 1)).length (hldRow (keptB L (k + 1)))) := Lib.hid (by rw [keptB_no hkl hu]; exact hrow)
        have HB := Lib.hid hB
        clear hu hrow hB
        go_wp2
        go_roundg (L.length - (k + 1))
        case measure => omega
        case rel => exact ⟨k + 1, _, rfl, by go_num, rfl, hkl, rfl, HROW.out, HB.out⟩
      · have hui : (L[k].uses == 0) = false := by simpa using hu
        have HFR := Lib.hid (freedB_no hkl hu)
        have HKL := Lib.hid (keptB_length L k)
        have HKY := Lib.hid (keptB_yes hkl hu)
        have hks : (keptB L k).length ≤ 1000000 := by have := HKL.out; omega
        have HRW := Lib.hid hrow
        obtain ⟨Ak, ck, hvk⟩ := own_formI hrow
        subst hvk
        have HB := Lib.hid hB
        clear hu hrow hB
        go_wp2_with (at_builtin; refine wpList_append_own _ rfl _ _ 54 rfl w.heap.size 82 i0 (.agg #[.int .u32 0, .int .i64 0, .int .i64 0, .string ByteArray.empty]) 4 40 Tryz.underlying54 hi hz0 hz1 hz2 rfl (by decide) _ _ _ rfl (HRW.out.alloc _) ⟨wr.heap.size, 0, none⟩ 1 1 (hldC L[k]) rfl rfl (cell_newH _ _ _ _ _ _) (by simp [hldC, Value.oneCell']) (by unfold maxLen; omega) (by omega) (by have := HB.out.size; simp; omega) ?_; intro v8 w8 ho8 hg8 _)
        have HO8 : Hid (w8.ownsRow w.heap.size 82 4 v8 (keptB L (k + 1)).length (hldRow (keptB L (k + 1)))) := Lib.hid (by rw [HKY.out, hldRow_append, List.length_append]; exact ho8)
        have HB8 := Lib.hid (below_append HB.out HB.out.size HRW.out hg8)
        go_roundg (L.length - (k + 1))
        case measure => omega
        case rel => exact ⟨k + 1, _, rfl, by go_num, by rw [HFR.out], hkl, rfl, HO8.out, HB8.out⟩
    · obtain rfl : k = L.length := by omega
      have f0 := (hB.frozen (p := ⟨rb, 0, none⟩) HRL.out).trans HF0.out
      have HP := Lib.hid (rsweep_ok HBIN.out HBASE.out hB hrow)
      obtain ⟨Ak, ck, hvk⟩ := own_formI hrow
      subst hvk
      clear hrow hB
      go_wp2
      go_ret
      exact HP.out
end Go.Proofs.YtpanoplcamdnkaaGreatDoor
/- The reference's Bin: walk of Put. No conditions but bounds. -/
namespace Go.Proofs.YtpanoplcamdnkaaGreatDoor
open Go.RowKit Go.Lib

theorem Box2.setF {b d j : Nat} {x y : Value} {w : World} (h : Box2 b x y w) (hd : b ≠ d) (v : Value) : Box2 b x y (w.setCell ⟨d, j, none⟩ v) :=
  have hne : ∀ i, (⟨d, j, none⟩ : Addr) ≠ ⟨b, i, none⟩ := fun i e => by injection e with e _; exact hd e.symm
  ⟨(World.cell?_setCell_other _ _ _ _ (hne 0)).trans h.c0, (World.cell?_setCell_other _ _ _ _ (hne 1)).trans h.c1, by rw [World.frozen?_setCell]; exact h.f0, by rw [World.frozen?_setCell]; exact h.f1⟩
theorem RBin.own_lt {rb base b : Nat} {v : Value} {L : HldL} {w : World} (h : RBin rb base v L w) (hb : v.ownBlock = some b) : b < w.heap.size := by
  rcases h.own.2 with ⟨h1, _⟩ | ⟨g, cap, cur, h1, _, hh, _⟩
  · rw [h1] at hb; cases hb
  · rw [h1] at hb
    injection hb with hb
    subst hb
    exact (Array.getElem?_eq_some_iff.1 hh).1
theorem RBin.other {rb base b : Nat} {v : Value} {L : HldL} {w w' : World} (h : RBin rb base v L w) (h1 : rb ≠ b) (h2 : v.ownBlock ≠ some b) (hw : ∀ k, k ≠ b → w'.heap[k]? = w.heap[k]?) : RBin rb base v L w' := by
  refine ⟨(hw rb h1).trans h.row, ⟨h.own.1, ?_⟩, h.ne⟩
  rcases h.own.2 with h3 | ⟨g, cap, cur, hv, hg, hh, h4⟩
  · exact .inl h3
  · refine .inr ⟨g, cap, cur, hv, hg, (hw g fun e => h2 ?_).trans hh, h4⟩
    rw [hv, e]; rfl
def RPutPost (rb base : Nat) (v : Value) (L : HldL) (t : Bytes) (w : World) (e : Ending) (w' : World) : Prop :=
  ∃ v', e = .returned (.tuple #[idV (putB t L).2.1, .bool (putB t L).2.2.1, .int .i64 (putB t L).2.2.2]) ∧ RBin rb base v' (putB t L).1 w' ∧ (v' = v ∨ ∀ b, v'.ownBlock = some b → w.heap.size ≤ b) ∧ BFrame rb v w w'
theorem set2_keep {w : World} {b k : Nat} {x y : Value} (h : k ≠ b) : ((w.setCell ⟨b, 0, none⟩ x).setCell ⟨b, 1, none⟩ y).heap[k]? = w.heap[k]? := (set_keepB h).trans (set_keepB h)
theorem rput_err {rb base : Nat} {v : Value} {L : HldL} {t : Bytes} {w W : World} {c : Int} (h : RBin rb base v L w) (e : putB t L = (L, (0, 0), false, c)) (hb : Below w.heap.size w W) :
    RPutPost rb base v L t w (.returned (.tuple #[.agg #[.int .u32 0, .int .i64 0], .bool false, .int .i64 c])) ((W.setCell ⟨w.heap.size, 0, none⟩ (.int .u32 0)).setCell ⟨w.heap.size, 1, none⟩ (.int .i64 0)) := by
  refine ⟨v, by rw [e]; rfl, by rw [e]; exact (h.below hb).other (Nat.ne_of_lt h.lt) (fun e => Nat.lt_irrefl _ (h.own_lt e)) fun k hk => set2_keep hk, .inl rfl, hb.os, hb.tape, hb.output, by have := hb.size; simpa [World.setCell] using this, fun k hk _ _ => (set2_keep (by omega)).trans (hb.block k hk)⟩
theorem rput_err0 {rb base : Nat} {v : Value} {L : HldL} {t : Bytes} {w W : World} {c : Int} (h : RBin rb base v L w) (e : putB t L = (L, (0, 0), false, c)) (hb : Below w.heap.size w W) :
    RPutPost rb base v L t w (.returned (.tuple #[.agg #[.int .u32 0, .int .i64 0], .bool false, .int .i64 c])) W :=
  ⟨v, by rw [e]; rfl, by rw [e]; exact h.below hb, .inl rfl, .of_below hb⟩
theorem rput_hit {rb base g c k : Nat} {L : HldL} (hS : SrtB L) {t : Bytes} (hr : rightB t = true) (hs : Stands L (idOf t) k) (ht : (L[k]'hs.1).text = t) {w W : World} (h : RBin rb base (.slice (some ⟨g, 0, none⟩) L.length c) L w) (hb : Below w.heap.size w W) :
    RPutPost rb base (.slice (some ⟨g, 0, none⟩) L.length c) L t w (.returned (.tuple #[idV (idOf t), .bool false, .int .i64 0])) (((W.setCell ⟨g, k * 4 + 2, none⟩ (.int .i64 ((L[k]'hs.1).uses + 1))).setCell ⟨w.heap.size, 0, none⟩ (.int .u32 ((idOf t).1 : Int))).setCell ⟨w.heap.size, 1, none⟩ (.int .i64 (idOf t).2)) := by
  have hk := hs.1
  have he : L[k].id = idOf t := hs.2.1
  have e : putB t L = (L.set k ⟨L[k].id, L[k].uses + 1, L[k].text⟩, idOf t, false, 0) := by
    unfold putB
    rw [if_neg (by rw [hr]; simp), getB_stands hs]
    show (if L[k].text ≠ t then _ else _) = _
    rw [if_neg (not_not_intro ht), setB_stands hS ⟨idOf t, L[k].uses + 1, t⟩ k hs, he, ht]
  have hgr : g ≠ rb := h.ne g rfl
  have hgl : g < w.heap.size := h.own_lt rfl
  have hW := h.below hb
  obtain ⟨o1, _⟩ := hW.own.stored (k * 4 + 2) (.int .i64 (L[k].uses + 1))
  have h1 : RBin rb base (.slice (some ⟨g, 0, none⟩) L.length c) (L.set k ⟨L[k].id, L[k].uses + 1, L[k].text⟩) (W.setCell ⟨g, k * 4 + 2, none⟩ (.int .i64 (L[k].uses + 1))) :=
    ⟨(set_keepB (Ne.symm hgr)).trans hW.row, by rw [hldRow_uses L k hk, List.length_set]; exact o1, h.ne⟩
  refine ⟨_, by rw [e], by rw [e]; exact h1.other (Nat.ne_of_lt h.lt) (fun e => Nat.lt_irrefl _ (h.own_lt e)) fun k hk => set2_keep hk, .inl rfl, hb.os, hb.tape, hb.output, by have := hb.size; simpa [World.setCell] using this, fun j hj _ h2 => ?_⟩
  have hjg : j ≠ g := fun e => h2 (by rw [e]; rfl)
  exact (set2_keep (by omega)).trans ((set_keepB hjg).trans (hb.block j hj))
theorem setB_ins : ∀ {L : HldL} (_ : SrtB L) (y : Hld) (k : Nat) (_ : k ≤ L.length) (_ : ∀ j (hj : j < L.length), j < k → lesser L[j].id y.id = true) (_ : ∀ (hk : k < L.length), lesser L[k].id y.id = false) (_ : Nowhere L y.id),
    setB y L = L.take k ++ y :: L.drop k
  | [], _, y, k, _, _, _, _ => by simp [setB]
  | a :: r, hs, y, 0, _, _, h2, hno => by
    have hne : a.id ≠ y.id := hno 0 (by simp)
    have hl : lesser a.id y.id = false := h2 (by simp)
    have h3 : lesser y.id a.id = true := by
      rcases lesser_total hne with h | h
      · rw [h] at hl; cases hl
      · exact h
    unfold setB
    rw [if_neg hne, if_pos h3]; rfl
  | a :: r, hs, y, k + 1, hk, h1, h2, hno => by
    obtain ⟨s1, s2⟩ := srtB_cons.1 hs
    have hne : a.id ≠ y.id := hno 0 (by simp)
    have hl : lesser a.id y.id = true := h1 0 (by simp) (by omega)
    have hnl : ¬ lesser y.id a.id = true := fun e => by
      have := lesser_trans hl e
      rw [lesser_irrefl] at this; cases this
    unfold setB
    rw [if_neg hne, if_neg hnl, setB_ins s2 y k (by simpa using hk) (fun j hj hjk => h1 (j + 1) (by simpa using hj) (by omega)) (fun hk' => h2 (by simpa using hk')) (fun j hj => hno (j + 1) (by simpa using hj))]
    rfl
theorem rput_new {rb base : Nat} {v v' : Value} {L PL : HldL} {t : Bytes} {w wL W : World} (h : RBin rb base v L w) (hbase : base ≤ w.heap.size) (e : putB t L = (PL, idOf t, true, 0)) (hL : Below w.heap.size w wL) (hlt : w.heap.size < wL.heap.size) (ho : W.ownsRow wL.heap.size 82 4 v' PL.length (hldRow PL)) (hb : Below wL.heap.size wL W) :
    RPutPost rb base v L t w (.returned (.tuple #[idV (idOf t), .bool true, .int .i64 0])) (((W.setCell ⟨rb, 0, none⟩ v').setCell ⟨w.heap.size, 0, none⟩ (.int .u32 ((idOf t).1 : Int))).setCell ⟨w.heap.size, 1, none⟩ (.int .i64 (idOf t).2)) := by
  have hrl := h.lt
  have hbW := hL.trans (hb.mono hL.size)
  have hrow : (W.setCell ⟨rb, 0, none⟩ v').heap[rb]? = some (.cells #[v'] 174 (0, 0)) := by
    have := (hbW.block rb hrl).trans h.row
    simp [World.setCell, Array.getElem?_modify, this]
  have h1 : RBin rb base v' PL (W.setCell ⟨rb, 0, none⟩ v') := ⟨hrow, own_lower (own_setI ho (by omega)) (by omega), fun b hbk e => by have := own_ge ho hbk; omega⟩
  refine ⟨v', by rw [e], by rw [e]; exact h1.other (Nat.ne_of_lt hrl) (fun e => by have := own_ge ho e; omega) fun k hk => set2_keep hk, .inr fun b hbk => by have := own_ge ho hbk; omega, hbW.os, hbW.tape, hbW.output, by have := hbW.size; simpa [World.setCell] using this, fun j hj h1 _ => (set2_keep (by omega)).trans ((set_keepB h1).trans (hbW.block j hj))⟩
set_option maxRecDepth 100000 in
theorem RBPut_short (rb base : Nat) (v : Value) (L : HldL) (n : Int) (hn : n ≤ 4611686018427387904) (hL : BinOk n L) (hl : L.length ≤ 1000000) (t : Bytes) (hr : rightB t = false) (w : World) (hbase : base ≤ w.heap.size) (h : RBin rb base v L w) :
    Calls Tryz.prog 150 #[.pointer (some ⟨rb, 0, none⟩), VT t] w (RPutPost rb base v L t w) := by
  have hb0 : Below w.heap.size w (w.alloc (.cells #[.int .u32 0, .int .i64 0] 47)) := (Below.refl _ w).alloc (Nat.le_refl _) _
  have hx0 : Box2 w.heap.size (.int .u32 0) (.int .i64 0) (w.alloc (.cells #[.int .u32 0, .int .i64 0] 47)) := Box2.mk' _ _ _ _
  have HBIN := Lib.hid h
  have HR0 := Lib.hid (h.below hb0)
  have HB0 := Lib.hid hb0
  have HX0 := Lib.hid hx0
  have HZ := Lib.hid (bs_size t)
  have HP := Lib.hid (rput_err0 (t := t) (c := 2) HBIN.out (by unfold putB; exact if_pos hr) hb0)
  obtain ⟨z0, z1, f0, f1⟩ := hx0
  have hr' : t.length < 1 ∨ 64 < t.length := by unfold rightB at hr; simp at hr; omega
  clear h hb0 hL hr hbase
  by_cases h1 : t.length < 1
  · have h1i : ((bs t).size : Int) < 1 := by rw [HZ.out]; omega
    clear hr' h1
    go_enter Tryz.func150, Tryz.ntmps150
    go_wp2
    refine bodyPost_ret (v := .tuple #[.agg #[.int .u32 0, .int .i64 0], .bool false, .int .i64 2]) (by simp [results, Tryz.results150, go_sem, z0, z1]) rfl ?_
    exact HP.out
  · have h1i : ¬ ((bs t).size : Int) < 1 := by rw [HZ.out]; omega
    have h2i : ((bs t).size : Int) > 64 := by rw [HZ.out]; omega
    clear hr' h1
    go_enter Tryz.func150, Tryz.ntmps150
    go_wp2
    refine bodyPost_ret (v := .tuple #[.agg #[.int .u32 0, .int .i64 0], .bool false, .int .i64 2]) (by simp [results, Tryz.results150, go_sem, z0, z1]) rfl ?_
    exact HP.out
set_option maxRecDepth 100000 in
set_option maxHeartbeats 8000000 in
theorem RBPut_right (rb base : Nat) (v : Value) (L : HldL) (n : Int) (hn : n ≤ 4611686018427387904) (hL : BinOk n L) (hl : L.length ≤ 1000000) (t : Bytes) (hr : rightB t = true) (w : World) (hbase : base ≤ w.heap.size) (h : RBin rb base v L w) :
    Calls Tryz.prog 150 #[.pointer (some ⟨rb, 0, none⟩), VT t] w (RPutPost rb base v L t w) := by
  have hb0 : Below w.heap.size w (w.alloc (.cells #[.int .u32 0, .int .i64 0] 47)) := (Below.refl _ w).alloc (Nat.le_refl _) _
  have hx0 : Box2 w.heap.size (.int .u32 0) (.int .i64 0) (w.alloc (.cells #[.int .u32 0, .int .i64 0] 47)) := Box2.mk' _ _ _ _
  have HBIN := Lib.hid h
  have HR0 := Lib.hid (h.below hb0)
  have HB0 := Lib.hid hb0
  have HX0 := Lib.hid hx0
  have HZ := Lib.hid (bs_size t)
  have hrr := rightB_iff.1 hr
  have h1i : ¬ ((bs t).size : Int) < 1 := by rw [HZ.out]; omega
  have h2i : ¬ ((bs t).size : Int) > 64 := by rw [HZ.out]; omega
  have htm : (bs t).size ≤ maxLen := by rw [HZ.out]; unfold maxLen; omega
  have HRT := Lib.hid hr
  have HOK := Lib.hid hL
  have HBASE := Lib.hid hbase
  have HLEN := Lib.hid hl
  have HBT := Lib.hid (bs_toList t)
  clear h hb0 hx0 hL hr hbase hrr hl
  go_enter Tryz.func150, Tryz.ntmps150
  go_wp2_with fail
  refine (IDOf_any (bs t) _ htm).mono ?_
  rintro e w1 ⟨rfl, hb1⟩
  rw [HBT.out, HZ.out]
  have hb01 := HB0.out.trans (hb1.mono HB0.out.size)
  have ha2 := (Below.refl w1.heap.size w1).alloc (Nat.le_refl _) (.cells #[.int .u32 ((prOf t : Nat) : Int), .int .i64 (t.length : Int)] 47)
  have hx2 : Box2 w1.heap.size (.int .u32 ((prOf t : Nat) : Int)) (.int .i64 (t.length : Int)) (w1.alloc (.cells #[.int .u32 ((prOf t : Nat) : Int), .int .i64 (t.length : Int)] 47)) := Box2.mk' _ _ _ _
  have HX7 := Lib.hid hx2
  have hx4 := (HX0.out.below hb1 HX0.out.lt).below ha2 (Nat.lt_of_lt_of_le HX0.out.lt hb1.size)
  have HX4 := Lib.hid hx4
  have HB2 := Lib.hid (hb01.trans (ha2.mono hb01.size))
  have HM := Lib.hid (show w.heap.size < w1.heap.size from Nat.lt_of_lt_of_le HX0.out.lt hb1.size)
  have HR2 := Lib.hid (HBIN.out.below HB2.out)
  have FIND := Lib.hid (RBFind_any rb base v L (by have := HLEN.out; omega) (prOf t, (t.length : Int)) _ HR2.out)
  obtain ⟨x0, x1, _, _⟩ := hx2
  clear hb1 hb01 ha2 hx4
  go_wp2_with fail
  refine FIND.out.mono ?_
  clear x0 x1
  rintro e w3 ⟨hb3, hcase⟩
  have HX7_3 := Lib.hid (HX7.out.below hb3 HX7.out.lt)
  have HX4_3 := Lib.hid (HX4.out.below hb3 HX4.out.lt)
  have HB3 := Lib.hid (HB2.out.trans (hb3.mono HB2.out.size))
  have HR3 := Lib.hid (HR2.out.below hb3)
  clear hb3 HX7 HX4 HB2 HR2 FIND HR0 HB0 HX0
  have hc0 := HR3.out.cell
  obtain ⟨A, c, rfl, hr⟩ := own_rdH HR3.out.own
  have HRD := Lib.hid hr
  obtain ⟨x0, x1, f0, f1⟩ := HX4_3.out
  obtain ⟨y0, y1, _, _⟩ := HX7_3.out
  clear hr
  rcases hcase with ⟨k, hs, rfl⟩ | ⟨hno, rfl⟩
  · have HS := Lib.hid hs
    have hk := hs.1
    obtain ⟨g, rfl, hg, hcells⟩ := HRD.out (by omega)
    obtain ⟨_, _, c2, c3⟩ := hcells k hk
    have b1 : (0 : Int) ≤ (k : Int) := by omega
    have b2 : (k : Int) < (L.length : Int) := by omega
    have fz := HR3.out.own.frozenAt (k * 4 + 2)
    have hus := (HOK.out.all L[k] (List.getElem_mem hk)).uses
    have hws : IntKind.i64.wrap (L[k].uses + 1) = L[k].uses + 1 := IntWalk.i64_in _ (by omega)
    have hcmp : ((bs L[k].text).toList == (bs t).toList) = decide (L[k].text = t) := by rw [← bs_beq]
    clear hcells hs
    by_cases ht : L[k].text = t
    · have hP := rput_hit HOK.out.srt HRT.out HS.out ht HBIN.out HB3.out
      have hti : ((bs L[k].text).toList == (bs t).toList) = true := by rw [hcmp]; exact decide_eq_true ht
      have hgw : g < w.heap.size := HBIN.out.own_lt rfl
      have hm := HM.out
      have hy7 := (HX7_3.out.setF (d := g) (j := k * 4 + 2) (by omega) (.int .i64 (L[k].uses + 1)))
      have hy4 := (HX4_3.out.setF (d := g) (j := k * 4 + 2) (by omega) (.int .i64 (L[k].uses + 1)))
      have HY4 := Lib.hid hy4
      obtain ⟨y0, y1, _, _⟩ := hy7
      obtain ⟨x0, x1, f0, f1⟩ := hy4
      obtain ⟨z0, z1, _⟩ := HY4.out.rd (.int .u32 ((prOf t : Nat) : Int)) (.int .i64 (t.length : Int))
      have HP := Lib.hid hP
      have HWS := Lib.hid hws
      clear hP hcmp ht hus hm
      go_wp2
      refine bodyPost_ret (v := .tuple #[.agg #[.int .u32 ((prOf t : Nat) : Int), .int .i64 (t.length : Int)], .bool false, .int .i64 0]) (by simp [results, Tryz.results150, go_sem, z0, z1]) rfl ?_
      exact HP.out
    · have hti : ((bs L[k].text).toList == (bs t).toList) = false := by rw [hcmp]; exact decide_eq_false ht
      have HP := Lib.hid (rput_err (t := t) (c := 10) HBIN.out (by unfold putB; rw [if_neg (by rw [HRT.out]; simp), show getB L (idOf t) = _ from getB_stands HS.out]; exact if_pos ht) HB3.out)
      obtain ⟨z0, z1, _⟩ := HX4_3.out.rd (.int .u32 0) (.int .i64 0)
      clear hcmp ht hus hws
      go_wp2
      refine bodyPost_ret (v := .tuple #[.agg #[.int .u32 0, .int .i64 0], .bool false, .int .i64 10]) (by simp [results, Tryz.results150, go_sem, z0, z1]) rfl ?_
      exact HP.out
  · have HNO := Lib.hid hno
    clear hno
    by_cases h250 : 250 ≤ L.length
    · have h250i : (L.length : Int) ≥ 250 := by omega
      have HP := Lib.hid (rput_err (t := t) (c := 7) HBIN.out (by unfold putB; rw [if_neg (by rw [HRT.out]; simp), show getB L (idOf t) = _ from getB_nowhere HNO.out]; exact if_pos h250) HB3.out)
      obtain ⟨z0, z1, _⟩ := HX4_3.out.rd (.int .u32 0) (.int .i64 0)
      go_wp2
      refine bodyPost_ret (v := .tuple #[.agg #[.int .u32 0, .int .i64 0], .bool false, .int .i64 7]) (by simp [results, Tryz.results150, go_sem, z0, z1]) rfl ?_
      exact HP.out
    · have h250i : ¬ (L.length : Int) ≥ 250 := by omega
      go_wp2
      go_loopg [9] L.length (fun gh vi wr => ∃ j : Nat, vi = .int .i64 j ∧ j ≤ L.length ∧ gh = L.length - j ∧ Hid (∀ i (hi : i < L.length), i < j → lesser L[i].id (idOf t) = true) ∧ Below w3.heap.size w3 wr)
      case atStart => exact ⟨0, rfl, Nat.zero_le _, rfl, Lib.hid (fun i _ h => absurd h (Nat.not_lt_zero _)), Below.refl _ _⟩
      case round =>
        obtain ⟨j, rfl, hj, hgm, hless, hB⟩ := hrel
        have HX4r := Lib.hid (HX4_3.out.below hB HX4_3.out.lt)
        have HX7r := Lib.hid (HX7_3.out.below hB HX7_3.out.lt)
        have HBr := Lib.hid (HB3.out.trans (hB.mono HB3.out.size))
        have HRr := Lib.hid (HR3.out.below hB)
        have c0 := HRr.out.cell
        clear x0 x1 f0 f1 y0 y1 hc0
        by_cases hjl : j < L.length
        · obtain ⟨g, rfl, hg, hcells⟩ := HRD.out (by omega)
          obtain ⟨c1, c2, _, _⟩ := hcells j hjl
          have Y1 := Lib.hid ((hB.cell (p := ⟨g, j * 4, none⟩) hg).trans c1)
          have Y2 := Lib.hid ((hB.cell (p := ⟨g, j * 4 + 1, none⟩) hg).trans c2)
          have hgr : g < wr.heap.size := Nat.lt_of_lt_of_le hg hB.size
          have hrbr : rb < wr.heap.size := HRr.out.lt
          have C0 := Lib.hid c0
          have b1 : (0 : Int) ≤ (j : Int) := by omega
          have b2 : (j : Int) < (L.length : Int) := by omega
          clear c1 c2 hcells
          go_wp2
          have hS0 : Below wr.heap.size wr wr.drew := (Below.refl _ _).drew
          refine region_S (fun w' => Below wr.heap.size wr w') 10 (by kernel_rfl) (by kernel_rfl) ?_
          refine take_S 0 rfl (by kernel_rfl) (by kernel_rfl) hS0 (fun w' hS => by go_simp; rfl) ?_
          refine take_S 1 rfl (by kernel_rfl) (by kernel_rfl) hS0 (fun w' hS => by go_simp; rfl) ?_
          refine take_S 2 rfl (by kernel_rfl) (by kernel_rfl) hS0 (fun w' hS => by go_simp; rfl) ?_
          refine take_S 3 rfl (by kernel_rfl) (by kernel_rfl) hS0 (fun w' hS => by have k0 := (hS.cell (p := ⟨rb, 0, none⟩) hrbr).trans C0.out; go_simp; rfl) ?_
          refine take_S 4 rfl (by kernel_rfl) (by kernel_rfl) hS0 (fun w' hS => by go_simp; rfl) ?_
          refine take_S 5 rfl (by kernel_rfl) (by kernel_rfl) hS0 (fun w' hS => by go_simp; rfl) ?_
          refine take_S 6 rfl (by kernel_rfl) (by kernel_rfl) hS0 (fun w' hS => by go_simp; rfl) ?_
          refine take_S 7 rfl (by kernel_rfl) (by kernel_rfl) hS0 (fun w' hS => by have k0 := (hS.cell (p := ⟨g, j * 4, none⟩) hgr).trans Y1.out; have k1 := (hS.cell (p := ⟨g, j * 4 + 1, none⟩) hgr).trans Y2.out; go_simp; rfl) ?_
          refine take_S 8 rfl (by kernel_rfl) (by kernel_rfl) hS0 (fun w' hS => by obtain ⟨k0, k1, _, _⟩ := HX7r.out.below hS HX7r.out.lt; go_simp; rfl) ?_
          refine carry_S 9 rfl (by kernel_rfl) (by decide) (by kernel_rfl) (fun K hK => ?_)
          go_simp
          refine (RIsLess_any L[j].id.1 (prOf t) L[j].id.2 (t.length : Int) _).mono ?_
          rintro e w4 ⟨rfl, hb4⟩
          have hS4 : Below wr.heap.size wr w4 := hS0.trans hb4
          refine hK _ _ hS4 (forced_S (by kernel_rfl) ?_)
          clear hK K
          try simp only [Act.put, List.getElem_toArray, List.getElem_cons_succ, List.getElem_cons_zero, List.setIfInBounds_toArray, List.set_cons_zero, List.set_cons_succ]
          simp only [List.drop_succ_cons, List.drop_zero]
          have HB4 := Lib.hid (HBr.out.trans (hS4.mono HBr.out.size))
          have HX44 := Lib.hid (HX4r.out.below hS4 HX4r.out.lt)
          have HX74 := Lib.hid (HX7r.out.below hS4 HX7r.out.lt)
          have HR4 := Lib.hid (HRr.out.below hS4)
          have HB34 := Lib.hid (hB.trans (hS4.mono hB.size))
          have c04 := HR4.out.cell
          clear hS0 hS4 hb4 hB c0
          cases hlt : lessId L[j].id.1 (prOf t) L[j].id.2 (t.length : Int) with
          | true =>
            have HN2 : Hid (∀ i (hi : i < L.length), i < j + 1 → lesser L[i].id (idOf t) = true) := Lib.hid fun i hi h => by
              rcases Nat.lt_or_ge i j with h1 | h1
              · exact hless.out i hi h1
              · obtain rfl : i = j := by omega
                exact hlt
            clear hless hlt
            go_wp2
            go_roundg (L.length - (j + 1))
            case measure => omega
            case rel => exact ⟨j + 1, by go_num, hjl, rfl, HN2, HB34.out⟩
          | false =>
            have h2 : ∀ (hk : j < L.length), lesser L[j].id (idOf t) = false := fun _ => hlt
            clear hlt
            obtain ⟨i0, hi, hz0, hz1, hz2⟩ := info_parts info_held
            have hput := setB_ins HOK.out.srt ⟨idOf t, 1, t⟩ j hj hless.out h2 HNO.out
            have hrb0 := HR4.out.cell
            have hrl : rb < w4.heap.size := HR4.out.lt
            have HRC : Hid (RdC w4 w4.heap.size 4 (.slice (some ⟨g, 0, none⟩) L.length c) L.length (hldRow L)) := Lib.hid (RdC.ownP HR4.out.own)
            have hcap : L.length ≤ c := by
              obtain ⟨_, _, hv0, _, h1, _⟩ := HRC.out
              injection hv0 with _ _ h3
              omega
            have HT1 : Hid (RdC w4 w4.heap.size 4 (.slice (some ⟨g, 0, none⟩) j c) j ((hldRow L).take (j * 4))) := Lib.hid (HRC.out.takeM j hj)
            have HT3 : Hid (RdC w4 w4.heap.size 4 (.slice (some ⟨g, j * 4, none⟩) (L.length - j) (c - j)) (L.length - j) ((hldRow L).drop (j * 4))) := Lib.hid (by have h := HRC.out.cutM j hj; rw [if_neg (by omega), Option.map_some, add_eqM, Nat.zero_add] at h; exact h)
            have HO1 : Hid (∀ u ∈ (hldRow L).take (j * 4), u.oneCell' = true) := Lib.hid (fun u hu => hldRow_one L u (List.mem_of_mem_take hu))
            have HO3 : Hid (∀ u ∈ (((hldRow L).drop (j * 4)) : List Value), u.oneCell' = true) := Lib.hid (fun u hu => hldRow_one L u (List.mem_of_mem_drop hu))
            obtain ⟨PL, hPL⟩ : ∃ PL, PL = setB ⟨idOf t, 1, t⟩ L := ⟨_, rfl⟩
            have hpe : putB t L = (PL, idOf t, true, 0) := by
              unfold putB
              rw [if_neg (by rw [HRT.out]; simp), show getB L (idOf t) = _ from getB_nowhere HNO.out, hPL]
              exact if_neg h250
            have hpl : PL.length = 0 + j + 1 + (L.length - j) := by rw [hPL, hput, List.length_append, List.length_take, List.length_cons, List.length_drop]; omega
            have HPR : Hid (∀ (w7 : World) (v7 : Value), w7.ownsRow w4.heap.size 82 4 v7 (0 + j + 1 + (L.length - j)) (([] ++ (hldRow L).take (j * 4)) ++ [.int .u32 ((prOf t : Nat) : Int), .int .i64 (t.length : Int), .int .i64 1, .string (bs t)] ++ ((hldRow L).drop (j * 4))) → w7.ownsRow w4.heap.size 82 4 v7 PL.length (hldRow PL)) := Lib.hid (fun w7 v7 ho => by
              have hl : hldRow PL = ([] ++ (hldRow L).take (j * 4)) ++ [.int .u32 ((prOf t : Nat) : Int), .int .i64 (t.length : Int), .int .i64 1, .string (bs t)] ++ ((hldRow L).drop (j * 4)) := by
                rw [hPL, hput, hldRow_append, hldRow_take, hldRow_drop]
                show hldRow (L.take j) ++ (hldC ⟨idOf t, 1, t⟩ ++ hldRow (L.drop j)) = _
                unfold hldC
                simp [show hldRow [] = [] from rfl, idOf]
              rw [hpl, hl]; exact ho)
            have HP : Hid (∀ (w7 : World) (v7 : Value), w7.ownsRow w4.heap.size 82 4 v7 PL.length (hldRow PL) → Below w4.heap.size w4 w7 → RPutPost rb base (.slice (some ⟨g, 0, none⟩) L.length c) L t w (.returned (.tuple #[idV (idOf t), .bool true, .int .i64 0])) (((w7.setCell ⟨rb, 0, none⟩ v7).setCell ⟨w.heap.size, 0, none⟩ (.int .u32 ((idOf t).1 : Int))).setCell ⟨w.heap.size, 1, none⟩ (.int .i64 (idOf t).2))) := Lib.hid (fun w7 v7 ho hb => rput_new HBIN.out HBASE.out hpe HB4.out (by have := HX44.out.lt; omega) ho hb)
            have q1 : (0 : Int) ≤ (j : Int) := by omega
            have q2 : (j : Int) ≤ (L.length : Int) := by omega
            have q3 : (j : Int) ≤ (c : Int) := by omega
            have hne7 : w1.heap.size ≠ rb := by have := HBIN.out.lt; have := HM.out; omega
            have hne4 : w.heap.size ≠ rb := by have := HBIN.out.lt; omega
            clear hput hpl hPL h2 hless hpe
            go_wp2_with (first | (at_builtin; refine wpList_append_rdM rfl (.tmp 79) (.tmp 85) 54 rfl w4.heap.size 82 i0 (.agg #[.int .u32 0, .int .i64 0, .int .i64 0, .string ByteArray.empty]) 4 40 Tryz.underlying54 hi hz0 hz1 hz2 rfl (by decide) _ 0 [] rfl (World.ownsRow_nil _ _ _ _) w4.heap.size _ j ((hldRow L).take (j * 4)) rfl HT1.out HO1.out (by unfold maxLen; omega) (by omega) (Nat.le_refl _) ?_; intro v5 w5 ho5 hg5; have hS5 : Below w4.heap.size w4 w5 := below_grownP (Below.refl _ _) (Nat.le_refl _) (World.ownsRow_nil w4 w4.heap.size 82 4) hg5; obtain ⟨m0, m1, _, _⟩ := HX74.out.below hS5 HX74.out.lt; have c05 := (hS5.cell (p := ⟨rb, 0, none⟩) hrl).trans hrb0) | (at_builtin; refine wpList_append_own _ rfl (.tmp 87) (.tmp 91) 54 rfl w4.heap.size 82 i0 (.agg #[.int .u32 0, .int .i64 0, .int .i64 0, .string ByteArray.empty]) 4 40 Tryz.underlying54 hi hz0 hz1 hz2 rfl (by decide) _ _ _ rfl (ho5.alloc _) ⟨w5.heap.size, 0, none⟩ 1 1 [.int .u32 ((prOf t : Nat) : Int), .int .i64 (t.length : Int), .int .i64 1, .string (bs t)] rfl rfl (cell_newH _ _ _ _ _ _) (by simp [Value.oneCell']) (by unfold maxLen; omega) (by omega) (by have := hS5.size; simp; omega) ?_; intro v6 w6 ho6 hg6 _; have hS6 : Below w4.heap.size w4 w6 := below_append hS5 hS5.size ho5 hg6; have c06 := (hS6.cell (p := ⟨rb, 0, none⟩) hrl).trans hrb0) | (at_builtin; refine wpList_append_rdM rfl (.tmp 94) (.tmp 100) 54 rfl w4.heap.size 82 i0 (.agg #[.int .u32 0, .int .i64 0, .int .i64 0, .string ByteArray.empty]) 4 40 Tryz.underlying54 hi hz0 hz1 hz2 rfl (by decide) _ _ _ rfl ho6 w4.heap.size _ (L.length - j) ((hldRow L).drop (j * 4)) rfl (HT3.out.below hS6) HO3.out (by unfold maxLen; omega) (by omega) hS6.size ?_; intro v7 w7 ho7 hg7; have hS7 : Below w4.heap.size w4 w7 := below_grownP hS6 hS6.size ho6 hg7; have ho8 := HPR.out w7 v7 ho7; obtain ⟨A7, c7, hv7⟩ := own_formI ho8; subst hv7; have hrow7 := (hS7.block rb hrl).trans HR4.out.row; have d0 := cell_of_row w7 rb 0 _ _ _ hrow7; have e0 := frozen_of_row w7 rb 0 _ _ hrow7; obtain ⟨y0, y1, _, _⟩ := (HX74.out.below hS7 HX74.out.lt).setF (d := rb) (j := 0) hne7 (.slice A7 PL.length c7); have HY4 := Lib.hid ((HX44.out.below hS7 HX44.out.lt).setF (d := rb) (j := 0) hne4 (.slice A7 PL.length c7)); obtain ⟨x0, x1, f0, f1⟩ := HY4.out; obtain ⟨z0, z1, _⟩ := HY4.out.rd (.int .u32 ((prOf t : Nat) : Int)) (.int .i64 (t.length : Int))) | fail)
            refine bodyPost_ret (v := .tuple #[.agg #[.int .u32 ((prOf t : Nat) : Int), .int .i64 (t.length : Int)], .bool true, .int .i64 0]) (by simp [results, Tryz.results150, go_sem, z0, z1]) rfl ?_
            exact HP.out _ _ ho8 hS7
        · obtain rfl : j = L.length := by omega
          have h2 : ∀ (hk : L.length < L.length), lesser L[L.length].id (idOf t) = false := fun hk => absurd hk (Nat.lt_irrefl _)
          by_cases hcl : c = L.length
          · subst hcl
            obtain ⟨i0, hi, hz0, hz1, hz2⟩ := info_parts info_held
            have hput := setB_ins HOK.out.srt ⟨idOf t, 1, t⟩ L.length hj hless.out h2 HNO.out
            have hrb0 := HRr.out.cell
            have hrl : rb < wr.heap.size := HRr.out.lt
            have HRC : Hid (RdC wr wr.heap.size 4 (.slice A L.length L.length) L.length (hldRow L)) := Lib.hid (RdC.ownP HRr.out.own)
            have hcap : L.length ≤ L.length := Nat.le_refl _
            have HT1 : Hid (RdC wr wr.heap.size 4 (.slice A L.length L.length) L.length ((hldRow L).take (L.length * 4))) := Lib.hid (HRC.out.takeM L.length hj)
            have HT3 := Lib.hid trivial
            have HO1 : Hid (∀ u ∈ (hldRow L).take (L.length * 4), u.oneCell' = true) := Lib.hid (fun u hu => hldRow_one L u (List.mem_of_mem_take hu))
            have HO3 : Hid (∀ u ∈ ([] : List Value), u.oneCell' = true) := Lib.hid (fun u hu => absurd hu List.not_mem_nil)
            obtain ⟨PL, hPL⟩ : ∃ PL, PL = setB ⟨idOf t, 1, t⟩ L := ⟨_, rfl⟩
            have hpe : putB t L = (PL, idOf t, true, 0) := by
              unfold putB
              rw [if_neg (by rw [HRT.out]; simp), show getB L (idOf t) = _ from getB_nowhere HNO.out, hPL]
              exact if_neg h250
            have hpl : PL.length = 0 + L.length + 1 + 0 := by rw [hPL, hput, List.length_append, List.length_take, List.length_cons, List.length_drop]; omega
            have HPR : Hid (∀ (w7 : World) (v7 : Value), w7.ownsRow wr.heap.size 82 4 v7 (0 + L.length + 1 + 0) (([] ++ (hldRow L).take (L.length * 4)) ++ [.int .u32 ((prOf t : Nat) : Int), .int .i64 (t.length : Int), .int .i64 1, .string (bs t)] ++ []) → w7.ownsRow wr.heap.size 82 4 v7 PL.length (hldRow PL)) := Lib.hid (fun w7 v7 ho => by
              have hl : hldRow PL = ([] ++ (hldRow L).take (L.length * 4)) ++ [.int .u32 ((prOf t : Nat) : Int), .int .i64 (t.length : Int), .int .i64 1, .string (bs t)] ++ [] := by
                rw [hPL, hput, hldRow_append, hldRow_take, List.drop_of_length_le (Nat.le_refl _)]
                show hldRow (L.take L.length) ++ (hldC ⟨idOf t, 1, t⟩ ++ hldRow []) = _
                unfold hldC
                simp [show hldRow [] = [] from rfl, idOf]
              rw [hpl, hl]; exact ho)
            have HP : Hid (∀ (w7 : World) (v7 : Value), w7.ownsRow wr.heap.size 82 4 v7 PL.length (hldRow PL) → Below wr.heap.size wr w7 → RPutPost rb base (.slice A L.length L.length) L t w (.returned (.tuple #[idV (idOf t), .bool true, .int .i64 0])) (((w7.setCell ⟨rb, 0, none⟩ v7).setCell ⟨w.heap.size, 0, none⟩ (.int .u32 ((idOf t).1 : Int))).setCell ⟨w.heap.size, 1, none⟩ (.int .i64 (idOf t).2))) := Lib.hid (fun w7 v7 ho hb => rput_new HBIN.out HBASE.out hpe HBr.out (by have := HX4r.out.lt; omega) ho hb)
            have q1 : (0 : Int) ≤ (L.length : Int) := by omega
            have q2 : (L.length : Int) ≤ (L.length : Int) := by omega
            have q3 : (L.length : Int) ≤ (L.length : Int) := by omega
            have hne7 : w1.heap.size ≠ rb := by have := HBIN.out.lt; have := HM.out; omega
            have hne4 : w.heap.size ≠ rb := by have := HBIN.out.lt; omega
            clear hput hpl hPL h2 hless hpe
            go_wp2_with (first | (at_builtin; refine wpList_append_rdM rfl (.tmp 79) (.tmp 85) 54 rfl wr.heap.size 82 i0 (.agg #[.int .u32 0, .int .i64 0, .int .i64 0, .string ByteArray.empty]) 4 40 Tryz.underlying54 hi hz0 hz1 hz2 rfl (by decide) _ 0 [] rfl (World.ownsRow_nil _ _ _ _) wr.heap.size _ L.length ((hldRow L).take (L.length * 4)) rfl HT1.out HO1.out (by unfold maxLen; omega) (by omega) (Nat.le_refl _) ?_; intro v5 w5 ho5 hg5; have hS5 : Below wr.heap.size wr w5 := below_grownP (Below.refl _ _) (Nat.le_refl _) (World.ownsRow_nil wr wr.heap.size 82 4) hg5; obtain ⟨m0, m1, _, _⟩ := HX7r.out.below hS5 HX7r.out.lt; have c05 := (hS5.cell (p := ⟨rb, 0, none⟩) hrl).trans hrb0) | (at_builtin; refine wpList_append_own _ rfl (.tmp 87) (.tmp 91) 54 rfl wr.heap.size 82 i0 (.agg #[.int .u32 0, .int .i64 0, .int .i64 0, .string ByteArray.empty]) 4 40 Tryz.underlying54 hi hz0 hz1 hz2 rfl (by decide) _ _ _ rfl (ho5.alloc _) ⟨w5.heap.size, 0, none⟩ 1 1 [.int .u32 ((prOf t : Nat) : Int), .int .i64 (t.length : Int), .int .i64 1, .string (bs t)] rfl rfl (cell_newH _ _ _ _ _ _) (by simp [Value.oneCell']) (by unfold maxLen; omega) (by omega) (by have := hS5.size; simp; omega) ?_; intro v6 w6 ho6 hg6 _; have hS6 : Below wr.heap.size wr w6 := below_append hS5 hS5.size ho5 hg6; have c06 := (hS6.cell (p := ⟨rb, 0, none⟩) hrl).trans hrb0) | (at_builtin; refine wpList_append_rdM rfl (.tmp 94) (.tmp 100) 54 rfl wr.heap.size 82 i0 (.agg #[.int .u32 0, .int .i64 0, .int .i64 0, .string ByteArray.empty]) 4 40 Tryz.underlying54 hi hz0 hz1 hz2 rfl (by decide) _ _ _ rfl ho6 wr.heap.size _ 0 [] rfl (RdC.nilP _ _ _ _ _) HO3.out (by unfold maxLen; omega) (by omega) hS6.size ?_; intro v7 w7 ho7 hg7; have hS7 : Below wr.heap.size wr w7 := below_grownP hS6 hS6.size ho6 hg7; have ho8 := HPR.out w7 v7 ho7; obtain ⟨A7, c7, hv7⟩ := own_formI ho8; subst hv7; have hrow7 := (hS7.block rb hrl).trans HRr.out.row; have d0 := cell_of_row w7 rb 0 _ _ _ hrow7; have e0 := frozen_of_row w7 rb 0 _ _ hrow7; obtain ⟨y0, y1, _, _⟩ := (HX7r.out.below hS7 HX7r.out.lt).setF (d := rb) (j := 0) hne7 (.slice A7 PL.length c7); have HY4 := Lib.hid ((HX4r.out.below hS7 HX4r.out.lt).setF (d := rb) (j := 0) hne4 (.slice A7 PL.length c7)); obtain ⟨x0, x1, f0, f1⟩ := HY4.out; obtain ⟨z0, z1, _⟩ := HY4.out.rd (.int .u32 ((prOf t : Nat) : Int)) (.int .i64 (t.length : Int))) | fail)
            refine bodyPost_ret (v := .tuple #[.agg #[.int .u32 ((prOf t : Nat) : Int), .int .i64 (t.length : Int)], .bool true, .int .i64 0]) (by simp [results, Tryz.results150, go_sem, z0, z1]) rfl ?_
            exact HP.out _ _ ho8 hS7
          · have hcl2 : ¬ L.length = c := fun h => hcl h.symm
            obtain ⟨i0, hi, hz0, hz1, hz2⟩ := info_parts info_held
            have hput := setB_ins HOK.out.srt ⟨idOf t, 1, t⟩ L.length hj hless.out h2 HNO.out
            have hrb0 := HRr.out.cell
            have hrl : rb < wr.heap.size := HRr.out.lt
            have HRC : Hid (RdC wr wr.heap.size 4 (.slice A L.length c) L.length (hldRow L)) := Lib.hid (RdC.ownP HRr.out.own)
            have hcap : L.length ≤ c := by
              obtain ⟨_, _, hv0, _, h1, _⟩ := HRC.out
              injection hv0 with _ _ h3
              omega
            have HT1 : Hid (RdC wr wr.heap.size 4 (.slice A L.length c) L.length ((hldRow L).take (L.length * 4))) := Lib.hid (HRC.out.takeM L.length hj)
            have HT3 := Lib.hid trivial
            have HO1 : Hid (∀ u ∈ (hldRow L).take (L.length * 4), u.oneCell' = true) := Lib.hid (fun u hu => hldRow_one L u (List.mem_of_mem_take hu))
            have HO3 : Hid (∀ u ∈ ([] : List Value), u.oneCell' = true) := Lib.hid (fun u hu => absurd hu List.not_mem_nil)
            obtain ⟨PL, hPL⟩ : ∃ PL, PL = setB ⟨idOf t, 1, t⟩ L := ⟨_, rfl⟩
            have hpe : putB t L = (PL, idOf t, true, 0) := by
              unfold putB
              rw [if_neg (by rw [HRT.out]; simp), show getB L (idOf t) = _ from getB_nowhere HNO.out, hPL]
              exact if_neg h250
            have hpl : PL.length = 0 + L.length + 1 + 0 := by rw [hPL, hput, List.length_append, List.length_take, List.length_cons, List.length_drop]; omega
            have HPR : Hid (∀ (w7 : World) (v7 : Value), w7.ownsRow wr.heap.size 82 4 v7 (0 + L.length + 1 + 0) (([] ++ (hldRow L).take (L.length * 4)) ++ [.int .u32 ((prOf t : Nat) : Int), .int .i64 (t.length : Int), .int .i64 1, .string (bs t)] ++ []) → w7.ownsRow wr.heap.size 82 4 v7 PL.length (hldRow PL)) := Lib.hid (fun w7 v7 ho => by
              have hl : hldRow PL = ([] ++ (hldRow L).take (L.length * 4)) ++ [.int .u32 ((prOf t : Nat) : Int), .int .i64 (t.length : Int), .int .i64 1, .string (bs t)] ++ [] := by
                rw [hPL, hput, hldRow_append, hldRow_take, List.drop_of_length_le (Nat.le_refl _)]
                show hldRow (L.take L.length) ++ (hldC ⟨idOf t, 1, t⟩ ++ hldRow []) = _
                unfold hldC
                simp [show hldRow [] = [] from rfl, idOf]
              rw [hpl, hl]; exact ho)
            have HP : Hid (∀ (w7 : World) (v7 : Value), w7.ownsRow wr.heap.size 82 4 v7 PL.length (hldRow PL) → Below wr.heap.size wr w7 → RPutPost rb base (.slice A L.length c) L t w (.returned (.tuple #[idV (idOf t), .bool true, .int .i64 0])) (((w7.setCell ⟨rb, 0, none⟩ v7).setCell ⟨w.heap.size, 0, none⟩ (.int .u32 ((idOf t).1 : Int))).setCell ⟨w.heap.size, 1, none⟩ (.int .i64 (idOf t).2))) := Lib.hid (fun w7 v7 ho hb => rput_new HBIN.out HBASE.out hpe HBr.out (by have := HX4r.out.lt; omega) ho hb)
            have q1 : (0 : Int) ≤ (L.length : Int) := by omega
            have q2 : (L.length : Int) ≤ (L.length : Int) := by omega
            have q3 : (L.length : Int) ≤ (c : Int) := by omega
            have hne7 : w1.heap.size ≠ rb := by have := HBIN.out.lt; have := HM.out; omega
            have hne4 : w.heap.size ≠ rb := by have := HBIN.out.lt; omega
            clear hput hpl hPL h2 hless hpe
            go_wp2_with (first | (at_builtin; refine wpList_append_rdM rfl (.tmp 79) (.tmp 85) 54 rfl wr.heap.size 82 i0 (.agg #[.int .u32 0, .int .i64 0, .int .i64 0, .string ByteArray.empty]) 4 40 Tryz.underlying54 hi hz0 hz1 hz2 rfl (by decide) _ 0 [] rfl (World.ownsRow_nil _ _ _ _) wr.heap.size _ L.length ((hldRow L).take (L.length * 4)) rfl HT1.out HO1.out (by unfold maxLen; omega) (by omega) (Nat.le_refl _) ?_; intro v5 w5 ho5 hg5; have hS5 : Below wr.heap.size wr w5 := below_grownP (Below.refl _ _) (Nat.le_refl _) (World.ownsRow_nil wr wr.heap.size 82 4) hg5; obtain ⟨m0, m1, _, _⟩ := HX7r.out.below hS5 HX7r.out.lt; have c05 := (hS5.cell (p := ⟨rb, 0, none⟩) hrl).trans hrb0) | (at_builtin; refine wpList_append_own _ rfl (.tmp 87) (.tmp 91) 54 rfl wr.heap.size 82 i0 (.agg #[.int .u32 0, .int .i64 0, .int .i64 0, .string ByteArray.empty]) 4 40 Tryz.underlying54 hi hz0 hz1 hz2 rfl (by decide) _ _ _ rfl (ho5.alloc _) ⟨w5.heap.size, 0, none⟩ 1 1 [.int .u32 ((prOf t : Nat) : Int), .int .i64 (t.length : Int), .int .i64 1, .string (bs t)] rfl rfl (cell_newH _ _ _ _ _ _) (by simp [Value.oneCell']) (by unfold maxLen; omega) (by omega) (by have := hS5.size; simp; omega) ?_; intro v6 w6 ho6 hg6 _; have hS6 : Below wr.heap.size wr w6 := below_append hS5 hS5.size ho5 hg6; have c06 := (hS6.cell (p := ⟨rb, 0, none⟩) hrl).trans hrb0) | (at_builtin; refine wpList_append_rdM rfl (.tmp 94) (.tmp 100) 54 rfl wr.heap.size 82 i0 (.agg #[.int .u32 0, .int .i64 0, .int .i64 0, .string ByteArray.empty]) 4 40 Tryz.underlying54 hi hz0 hz1 hz2 rfl (by decide) _ _ _ rfl ho6 wr.heap.size _ 0 [] rfl (RdC.nilP _ _ _ _ _) HO3.out (by unfold maxLen; omega) (by omega) hS6.size ?_; intro v7 w7 ho7 hg7; have hS7 : Below wr.heap.size wr w7 := below_grownP hS6 hS6.size ho6 hg7; have ho8 := HPR.out w7 v7 ho7; obtain ⟨A7, c7, hv7⟩ := own_formI ho8; subst hv7; have hrow7 := (hS7.block rb hrl).trans HRr.out.row; have d0 := cell_of_row w7 rb 0 _ _ _ hrow7; have e0 := frozen_of_row w7 rb 0 _ _ hrow7; obtain ⟨y0, y1, _, _⟩ := (HX7r.out.below hS7 HX7r.out.lt).setF (d := rb) (j := 0) hne7 (.slice A7 PL.length c7); have HY4 := Lib.hid ((HX4r.out.below hS7 HX4r.out.lt).setF (d := rb) (j := 0) hne4 (.slice A7 PL.length c7)); obtain ⟨x0, x1, f0, f1⟩ := HY4.out; obtain ⟨z0, z1, _⟩ := HY4.out.rd (.int .u32 ((prOf t : Nat) : Int)) (.int .i64 (t.length : Int))) | fail)
            refine bodyPost_ret (v := .tuple #[.agg #[.int .u32 ((prOf t : Nat) : Int), .int .i64 (t.length : Int)], .bool true, .int .i64 0]) (by simp [results, Tryz.results150, go_sem, z0, z1]) rfl ?_
            exact HP.out _ _ ho8 hS7
theorem RBPut_any (rb base : Nat) (v : Value) (L : HldL) (n : Int) (hn : n ≤ 4611686018427387904) (hL : BinOk n L) (hl : L.length ≤ 1000000) (t : Bytes) (w : World) (hbase : base ≤ w.heap.size) (h : RBin rb base v L w) :
    Calls Tryz.prog 150 #[.pointer (some ⟨rb, 0, none⟩), VT t] w (RPutPost rb base v L t w) := by
  cases hr : rightB t with
  | false => exact RBPut_short rb base v L n hn hL hl t hr w hbase h
  | true => exact RBPut_right rb base v L n hn hL hl t hr w hbase h
end Go.Proofs.YtpanoplcamdnkaaGreatDoor

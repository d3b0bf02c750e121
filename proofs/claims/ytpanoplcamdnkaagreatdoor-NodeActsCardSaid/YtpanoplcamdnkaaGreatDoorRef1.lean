/- RrM, RnA, RnB, RnC, RnD in one text. Conditions: as each part says. -/
import Derived.Test.YtpanoplcamdnkaaGreatDoorRcq3
import Derived.Test.YtpanoplcamdnkaaGreatDoorPrR
import Derived.Test.YtpanoplcamdnkaaGreatDoorRow
import Derived.Test.YtpanoplcamdnkaaGreatDoorRbn1
import Derived.Test.YtpanoplcamdnkaaGreatDoorNod3
/- Walk of the reference's RepOf. No conditions but bounds. -/
namespace Go.Proofs.YtpanoplcamdnkaaGreatDoor
open Go.RowKit Go.Lib

set_option maxRecDepth 100000 in
set_option maxHeartbeats 2000000 in
theorem RRepOf_any (v : Value) (r : Rcp) (hc : r.ids.length ≤ 1000000) (w : World) (hv : RcpV w w.heap.size v r) :
    Calls Tryz.prog 138 #[v] w fun e w' => e = .returned (idV (repOf r.ids)) ∧ Below w.heap.size w w' := by
  obtain ⟨sl, rfl, hrd⟩ := hv
  have hb0 : Below w.heap.size w ((w.alloc (.cells #[VT r.name, .int .i64 r.len, .int .u32 (r.print : Int), sl] 65)).alloc (.cells #[.int .u32 0, .int .i64 0] 47)) := ((Below.refl _ w).alloc (Nat.le_refl _) _).alloc (by simp) _
  have hbx : Box4 w.heap.size (VT r.name) (.int .i64 r.len) (.int .u32 (r.print : Int)) sl ((w.alloc (.cells #[VT r.name, .int .i64 r.len, .int .u32 (r.print : Int), sl] 65)).alloc (.cells #[.int .u32 0, .int .i64 0] 47)) := (Box4.mk' w _ _ _ _ _).below ((Below.refl (w.alloc _).heap.size (w.alloc _)).alloc (Nat.le_refl _) _) (by simp)
  have hbr : Box2 (w.heap.size + 1) (.int .u32 0) (.int .i64 0) ((w.alloc (.cells #[VT r.name, .int .i64 r.len, .int .u32 (r.print : Int), sl] 65)).alloc (.cells #[.int .u32 0, .int .i64 0] 47)) := by
    have := Box2.mk' (w.alloc (.cells #[VT r.name, .int .i64 r.len, .int .u32 (r.print : Int), sl] 65)) (.int .u32 0) (.int .i64 0) 47
    simpa using this
  have hrd0 := (hrd.keep hb0 (Nat.le_refl _))
  obtain ⟨A, c, rfl, hcap, _⟩ := hrd.form
  have HB0 := Lib.hid hb0
  have HBR := Lib.hid hbr
  have HBX := Lib.hid hbx
  obtain ⟨_, _, hv1, _, hcells⟩ := hrd0.form
  injection hv1 with e1 e2 e3
  subst e1
  have HC := Lib.hid hcells
  obtain ⟨c0, c1, c2, c3, _⟩ := hbx
  have ID0 : ∀ w, Calls Tryz.prog 143 #[.string ⟨#[]⟩] w fun e w' => e = .returned (idV (idOf [])) ∧ Below w.heap.size w w' := fun w => IDOf_any ⟨#[]⟩ w (by decide)
  have HID := Lib.hid ID0
  have hsz0 : ((w.alloc (.cells #[VT r.name, .int .i64 r.len, .int .u32 (r.print : Int), .slice A r.ids.length c] 65)).alloc (.cells #[.int .u32 0, .int .i64 0] 47)).heap.size = w.heap.size + 2 := by simp
  clear hb0 hbr hrd hrd0 ID0 hcells e2 e3
  by_cases hz : r.ids = []
  · have HR : Hid (repOf r.ids = idOf []) := Lib.hid (by rw [hz]; rfl)
    have hl : r.ids.length = 0 := by rw [hz]; rfl
    have hli : ((r.ids.length : Int) == 0) = true := by rw [hl]; rfl
    clear hz hl hsz0
    go_enter Tryz.func138, Tryz.ntmps138
    go_wp2_with fail
    refine (HID.out _).mono ?_
    rintro e w1 ⟨rfl, hb1⟩
    have hbr1 := HBR.out.below hb1 HBR.out.lt
    have HBR1 := Lib.hid hbr1
    obtain ⟨r0, r1, f0, f1⟩ := hbr1
    obtain ⟨t0, t1, t2⟩ := HBR1.out.rd (.int .u32 ((idOf []).1 : Int)) (.int .i64 (idOf []).2)
    have HB9 := Lib.hid (below_set2 (HB0.out.trans (hb1.mono HB0.out.size)) (Nat.le_succ _) (.int .u32 ((idOf []).1 : Int)) (.int .i64 (idOf []).2))
    clear hb1
    go_wp2
    refine bodyPost_ret (v := idV (idOf [])) (by simp [results, Tryz.results138, go_sem, t0, t1]) rfl ?_
    exact ⟨by rw [HR.out], HB9.out⟩
  · have hl : 0 < r.ids.length := List.length_pos_iff.2 hz
    have hli : ((r.ids.length : Int) == 0) = false := by rw [beq_eq_false_iff_ne]; omega
    obtain ⟨g, o, rfl, hg, hx⟩ := HC.out hl
    obtain ⟨x0, x1⟩ := hx 0 hl
    simp only [Nat.zero_mul, Nat.add_zero] at x0 x1
    have h0j : 0 < (r.ids.length : Int) := by omega
    have HREP : Hid (repOf r.ids = repFrom r.ids[0] (r.ids.drop 1)) := Lib.hid (by
      conv => lhs; rw [← List.drop_zero (l := r.ids), List.drop_eq_getElem_cons hl]
      rfl)
    have HX := Lib.hid hx
    clear hz hx
    go_enter Tryz.func138, Tryz.ntmps138
    go_wp2
    generalize (w.alloc (.cells #[VT r.name, .int .i64 r.len, .int .u32 (r.print : Int), .slice (some ⟨g, o, none⟩) r.ids.length c] 65)).alloc (.cells #[.int .u32 0, .int .i64 0] 47) = w0 at *
    have hb1 : Below w0.heap.size w0 (w0.alloc (.cells #[.int .u32 (r.ids[0].1 : Int), .int .i64 r.ids[0].2] 47)) := (Below.refl _ w0).alloc (Nat.le_refl _) _
    have hm0 : Box2 w0.heap.size (.int .u32 (r.ids[0].1 : Int)) (.int .i64 r.ids[0].2) (w0.alloc (.cells #[.int .u32 (r.ids[0].1 : Int), .int .i64 r.ids[0].2] 47)) := Box2.mk' _ _ _ _
    generalize w0.alloc (.cells #[.int .u32 (r.ids[0].1 : Int), .int .i64 r.ids[0].2] 47) = w1 at *
    have HB01 := Lib.hid hb1
    rw [hsz0] at hm0
    have hlt0 := hm0.lt
    clear hb1 x0 x1
    go_loopg [4] (r.ids.length - 1) (fun gh vi wr => ∃ (k : Nat) (m : Idn), vi = .int .i64 k ∧ 1 ≤ k ∧ k ≤ r.ids.length ∧ gh = r.ids.length - k ∧ Hid (repOf r.ids = repFrom m (r.ids.drop k)) ∧ w1.grownBy wr (some (w.heap.size + 2)) ∧ Box2 (w.heap.size + 2) (.int .u32 (m.1 : Int)) (.int .i64 m.2) wr)
    case atStart => exact ⟨1, r.ids[0], rfl, by omega, hl, rfl, HREP, ⟨rfl, rfl, rfl, Nat.le_refl _, fun _ _ _ => rfl⟩, hm0⟩
    case round =>
      obtain ⟨k, m, rfl, hk1, hk, hgm, hI, hg9, hbm⟩ := hrel
      have hnew : ∀ b, b ≠ w.heap.size + 2 → some b ≠ some (w.heap.size + 2) := fun b hb e => hb (Option.some.inj e)
      have hbx9 := gb_box4 hg9 (hnew _ (by omega)) (HBX.out.below HB01.out (by omega))
      have HBX9 := Lib.hid hbx9
      have er3 := hbx9.c3
      by_cases hkl : k < r.ids.length
      · obtain ⟨x0, x1⟩ := HX.out k hkl
        have hg0 : g < w0.heap.size := by omega
        have hg1 : g < w1.heap.size := by omega
        have hgr : g < wr.heap.size := by have := hg9.size; omega
        have y0 := (hg9.cell_far ⟨g, o + k * 2, none⟩ hg1 (hnew _ (by show g ≠ _; omega))).trans ((HB01.out.cell (p := ⟨g, o + k * 2, none⟩) hg0).trans x0)
        have y1 := (hg9.cell_far ⟨g, o + k * 2 + 1, none⟩ hg1 (hnew _ (by show g ≠ _; omega))).trans ((HB01.out.cell (p := ⟨g, o + k * 2 + 1, none⟩) hg0).trans x1)
        have b1 : (0 : Int) ≤ (k : Int) := by omega
        have b2 : (k : Int) < (r.ids.length : Int) := by omega
        have Y0 := Lib.hid y0
        have Y1 := Lib.hid y1
        have HBM := Lib.hid hbm
        have HG := Lib.hid hg9
        clear x0 x1 y0 y1 hbm hg9 hbx9
        go_wp2
        have hS0 : Below wr.heap.size wr wr.drew := (Below.refl _ _).drew
        refine region_S (fun w' => Below wr.heap.size wr w') 7 (by kernel_rfl) (by kernel_rfl) ?_
        refine take_S 0 rfl (by kernel_rfl) (by kernel_rfl) hS0 (fun w' hS => by go_simp; rfl) ?_
        refine take_S 1 rfl (by kernel_rfl) (by kernel_rfl) hS0 (fun w' hS => by have A3 := (HBX9.out.below hS HBX9.out.lt).c3; go_simp; rfl) ?_
        refine take_S 2 rfl (by kernel_rfl) (by kernel_rfl) hS0 (fun w' hS => by go_simp; rfl) ?_
        refine take_S 3 rfl (by kernel_rfl) (by kernel_rfl) hS0 (fun w' hS => by go_simp; rfl) ?_
        refine take_S 4 rfl (by kernel_rfl) (by kernel_rfl) hS0 (fun w' hS => by have B0 := (hS.cell (p := ⟨g, o + k * 2, none⟩) hgr).trans Y0.out; have B1 := (hS.cell (p := ⟨g, o + k * 2 + 1, none⟩) hgr).trans Y1.out; go_simp; rfl) ?_
        refine take_S 5 rfl (by kernel_rfl) (by kernel_rfl) hS0 (fun w' hS => by have B0 := (HBM.out.below hS HBM.out.lt).c0; have B1 := (HBM.out.below hS HBM.out.lt).c1; go_simp; rfl) ?_
        refine carry_S 6 rfl (by kernel_rfl) (by decide) (by kernel_rfl) (fun K hK => ?_)
        go_simp
        refine (RIsLess_any r.ids[k].1 m.1 r.ids[k].2 m.2 _).mono ?_
        rintro e w4 ⟨rfl, hb4⟩
        have hS4 : Below wr.heap.size wr w4 := hS0.trans hb4
        refine hK _ _ hS4 (forced_S (by kernel_rfl) ?_)
        clear hK K
        try simp only [Act.put, List.getElem_toArray, List.getElem_cons_succ, List.getElem_cons_zero, List.setIfInBounds_toArray, List.set_cons_zero, List.set_cons_succ]
        simp only [List.drop_succ_cons, List.drop_zero]
        have HB4 := Lib.hid (gb_below HG.out hS4)
        have hbm4 := HBM.out.below hS4 HBM.out.lt
        have HBM4 := Lib.hid hbm4
        have er4 := (HBX9.out.below hS4 HBX9.out.lt).c3
        have y0 := (hS4.cell (p := ⟨g, o + k * 2, none⟩) hgr).trans Y0.out
        have y1 := (hS4.cell (p := ⟨g, o + k * 2 + 1, none⟩) hgr).trans Y1.out
        obtain ⟨m0, m1, f0, f1⟩ := hbm4
        cases hcc : lesser r.ids[k] m with
        | true =>
          have hci : lessId r.ids[k].1 m.1 r.ids[k].2 m.2 = true := hcc
          have HN := Lib.hid (hI.out.trans (rep_next_yes hkl hcc))
          rw [hci]
          clear hcc hci hI
          go_wp2
          go_roundg (r.ids.length - (k + 1))
          case measure => omega
          case rel => exact ⟨k + 1, r.ids[k], by go_num, by omega, hkl, rfl, HN, gb_set (gb_set HB4.out _ _) _ _, HBM4.out.set _ _⟩
        | false =>
          have hci : lessId r.ids[k].1 m.1 r.ids[k].2 m.2 = false := hcc
          have HN := Lib.hid (hI.out.trans (rep_next_no hkl hcc))
          rw [hci]
          clear hcc hci hI
          go_wp2
          go_roundg (r.ids.length - (k + 1))
          case measure => omega
          case rel => exact ⟨k + 1, m, by go_num, by omega, hkl, rfl, HN, HB4.out, HBM4.out⟩
      · obtain rfl : k = r.ids.length := by omega
        have hI2 : repOf r.ids = m := by rw [hI.out, List.drop_eq_nil_of_le (Nat.le_refl _)]; rfl
        have HI := Lib.hid hI2
        have hrr := gb_box2 hg9 (by omega) (HBR.out.below HB01.out (by omega))
        have HRR := Lib.hid hrr
        obtain ⟨r0, r1, f0, f1⟩ := hrr
        obtain ⟨m0, m1, _, _⟩ := hbm
        obtain ⟨t0, t1, t2⟩ := HRR.out.rd (.int .u32 (m.1 : Int)) (.int .i64 m.2)
        have HB9 := Lib.hid (below_set2 (gb_toBelow (HB0.out.trans (HB01.out.mono HB0.out.size)) (by omega) (by omega) hg9) (Nat.le_succ _) (.int .u32 (m.1 : Int)) (.int .i64 m.2))
        clear hI hI2 hg9
        go_wp2
        refine bodyPost_ret (v := idV m) (by simp [results, Tryz.results138, go_sem, t0, t1]) rfl ?_
        exact ⟨by rw [HI.out], HB9.out⟩
end Go.Proofs.YtpanoplcamdnkaaGreatDoor
/- The reference's Node in memory: what it is, what stands; walks of Find, FindBin. No conditions but bounds. -/
namespace Go.Proofs.YtpanoplcamdnkaaGreatDoor
open Go.RowKit Go.Lib

/-- a rep's bin: its rep, its pieces, its block, its slice -/
structure RBE where
  x : Idn
  L : HldL
  rb : Nat
  v : Value
def rbC (q : RBE) : List Value := [.int .u32 (q.x.1 : Int), .int .i64 q.x.2, .pointer (some ⟨q.rb, 0, none⟩)]
def rbRow (G : List RBE) : List Value := G.flatMap rbC
theorem rbRow_length (G : List RBE) : (rbRow G).length = G.length * 3 := by
  induction G with
  | nil => rfl
  | cons o l ih => rw [show rbRow (o :: l) = rbC o ++ rbRow l from rfl, List.length_append, ih, show (rbC o).length = 3 from rfl, List.length_cons]; omega
theorem rbRow_append (a b : List RBE) : rbRow (a ++ b) = rbRow a ++ rbRow b := List.flatMap_append
theorem rbRow_at (l : List RBE) (k : Nat) (h : k < l.length) (j : Nat) (hj : j < 3) : (rbRow l)[k * 3 + j]? = (rbC l[k])[j]? := by
  conv => lhs; rw [← List.take_append_drop k l, List.drop_eq_getElem_cons h, rbRow_append]
  have hl : (rbRow (l.take k)).length = k * 3 := by rw [rbRow_length, List.length_take, Nat.min_eq_left (by omega)]
  rw [List.getElem?_append_right (by omega), hl, Nat.add_sub_cancel_left]
  rw [show rbRow (l[k] :: l.drop (k + 1)) = rbC l[k] ++ rbRow (l.drop (k + 1)) from rfl, List.getElem?_append_left (by simp [rbC]; exact hj)]
theorem rbRow_one (G : List RBE) : ∀ u ∈ rbRow G, u.oneCell' = true := by
  intro u hu
  obtain ⟨x, _, hx⟩ := List.mem_flatMap.1 hu
  simp only [rbC, List.mem_cons, List.not_mem_nil, or_false] at hx
  rcases hx with rfl | rfl | rfl <;> rfl
abbrev REL := List (Rcp × Value)
/-- the blocks that acts on the node write -/
def blkG (G : List RBE) : List Nat := G.flatMap fun q => q.rb :: q.v.ownBlock.toList
def blkN (n : Nat) (vb : Value) (G : List RBE) : List Nat := n :: (vb.ownBlock.toList ++ blkG G)
/-- those that are read -/
def rR (vf : Value) (E : REL) (k : Nat) : Prop := (vf.ownBlock = some k ∧ E ≠ []) ∨ ∃ x ∈ E, x.2.ownBlock = some k ∧ x.1.ids ≠ []
structure ORN (n : Nat) (vf vb : Value) (E : REL) (G : List RBE) (w : World) : Prop where
  row : w.heap[n]? = some (.cells #[vf, vb] 96 (0, 0))
  files : RdC w w.heap.size 4 vf E.length (rcK.row E)
  ids : ∀ x ∈ E, RdI w w.heap.size x.2 x.1.ids
  bins : w.ownsRow 0 172 3 vb G.length (rbRow G)
  bin : ∀ q ∈ G, RBin q.rb 0 q.v q.L w
  nd : (blkN n vb G).Nodup
  ap : ∀ k, rR vf E k → k ∉ blkN n vb G
def plainR (E : REL) (G : List RBE) : PNode := ⟨E.map fun x => (x.1.name, x.1), G.map fun q => (q.x, q.L)⟩
def rFoot (n : Nat) (vf vb : Value) (E : REL) (G : List RBE) : Foot := ⟨fun k => k ∈ blkN n vb G, rR vf E⟩
def RNodeIs (n : Nat) (P : PNode) (f : Foot) (w : World) : Prop := ∃ vf vb E G, ORN n vf vb E G w ∧ plainR E G = P ∧ rFoot n vf vb E G = f
section
variable {n : Nat} {vf vb : Value} {E : REL} {G : List RBE} {w w' : World}
theorem ORN.nlt (h : ORN n vf vb E G w) : n < w.heap.size := (Array.getElem?_eq_some_iff.1 h.row).1
theorem ORN.c0 (h : ORN n vf vb E G w) : w.cell? ⟨n, 0, none⟩ = some vf := by rw [cell_of_row w n 0 _ _ _ h.row]; rfl
theorem ORN.c1 (h : ORN n vf vb E G w) : w.cell? ⟨n, 1, none⟩ = some vb := by rw [cell_of_row w n 1 _ _ _ h.row]; rfl
theorem RdC.keepK {size m : Nat} {v : Value} {xs : List Value} (h : RdC w w.heap.size size v m xs) (hz : w.heap.size ≤ w'.heap.size) (hk : ∀ k, v.ownBlock = some k → 0 < m → k < w.heap.size → w'.heap[k]? = w.heap[k]?) : RdC w' w'.heap.size size v m xs := by
  obtain ⟨A, c, hv, hl, hc, hx⟩ := h
  refine ⟨A, c, hv, hl, hc, fun h0 => ?_⟩
  obtain ⟨g, o, hA, hg, hcell⟩ := hx h0
  subst hA; subst hv
  exact ⟨g, o, rfl, by omega, fun k u hu => (World.cell?_of_block (a := ⟨g, o + k, none⟩) (hk g rfl h0 hg)).trans (hcell k u hu)⟩
theorem mem_blkG {q : RBE} (hq : q ∈ G) : q.rb ∈ blkG G ∧ ∀ g, q.v.ownBlock = some g → g ∈ blkG G :=
  ⟨List.mem_flatMap.2 ⟨q, hq, List.mem_cons_self⟩, fun g e => List.mem_flatMap.2 ⟨q, hq, List.mem_cons_of_mem _ (by rw [e]; exact List.mem_cons_self)⟩⟩
theorem blk_n : n ∈ blkN n vb G := List.mem_cons_self
theorem blk_vb {g : Nat} (e : vb.ownBlock = some g) : g ∈ blkN n vb G := List.mem_cons_of_mem _ (List.mem_append_left _ (by rw [e]; exact List.mem_cons_self))
theorem blk_G {g : Nat} (e : g ∈ blkG G) : g ∈ blkN n vb G := List.mem_cons_of_mem _ (List.mem_append_right _ e)
theorem blk_iff {k : Nat} : k ∈ blkN n vb G ↔ k = n ∨ vb.ownBlock = some k ∨ ∃ q ∈ G, q.rb = k ∨ q.v.ownBlock = some k := by
  unfold blkN blkG
  rw [List.mem_cons, List.mem_append, List.mem_flatMap, Option.mem_toList]
  refine or_congr Iff.rfl (or_congr Iff.rfl ⟨fun ⟨q, hq, h⟩ => ⟨q, hq, ?_⟩, fun ⟨q, hq, h⟩ => ⟨q, hq, ?_⟩⟩)
  · rcases List.mem_cons.1 h with e | h
    · exact .inl e.symm
    · exact .inr (Option.mem_toList.1 h)
  · rcases h with e | e
    · exact List.mem_cons.2 (.inl e.symm)
    · exact List.mem_cons_of_mem _ (Option.mem_toList.2 e)
/-- the reference's node stands when its blocks do -/
theorem ORN.keepH (h : ORN n vf vb E G w) (hz : w.heap.size ≤ w'.heap.size) (hk : ∀ k, k < w.heap.size → (k ∈ blkN n vb G ∨ rR vf E k) → w'.heap[k]? = w.heap[k]?) : ORN n vf vb E G w' where
  row := (hk n h.nlt (.inl blk_n)).trans h.row
  files := h.files.keepK hz fun k e h0 hl => hk k hl (.inr (.inl ⟨e, List.ne_nil_of_length_pos h0⟩))
  ids := fun x hx => RdC.keepK (h.ids x hx) hz fun k e h0 hl => hk k hl (.inr (.inr ⟨x, hx, e, List.ne_nil_of_length_pos h0⟩))
  bins := by
    refine ⟨h.bins.1, ?_⟩
    rcases h.bins.2 with h1 | ⟨g, cap, cur, hv, hgb, hh, h3⟩
    · exact .inl h1
    · exact .inr ⟨g, cap, cur, hv, hgb, (hk g (Array.getElem?_eq_some_iff.1 hh).1 (.inl (blk_vb (by rw [hv]; rfl)))).trans hh, h3⟩
  bin := fun q hq => by
    have hb := h.bin q hq
    refine ⟨(hk q.rb hb.lt (.inl (blk_G (mem_blkG hq).1))).trans hb.row, ?_, hb.ne⟩
    refine ⟨hb.own.1, ?_⟩
    rcases hb.own.2 with h1 | ⟨g, cap, cur, hv, hgb, hh, h3⟩
    · exact .inl h1
    · exact .inr ⟨g, cap, cur, hv, hgb, (hk g (Array.getElem?_eq_some_iff.1 hh).1 (.inl (blk_G ((mem_blkG hq).2 g (by rw [hv]; rfl))))).trans hh, h3⟩
  nd := h.nd
  ap := h.ap
theorem ORN.below (h : ORN n vf vb E G w) (hb : Below w.heap.size w w') : ORN n vf vb E G w' := h.keepH hb.size fun k hk _ => hb.block k hk
theorem ORN.vbf (h : ORN n vf vb E G w) : ∃ A c, vb = .slice A G.length c ∧ G.length ≤ c ∧ (0 < G.length → ∃ g, A = some ⟨g, 0, none⟩ ∧ g < w.heap.size ∧ ∀ k (hk : k < G.length),
    w.cell? ⟨g, k * 3, none⟩ = some (.int .u32 (G[k].x.1 : Int)) ∧ w.cell? ⟨g, k * 3 + 1, none⟩ = some (.int .i64 G[k].x.2) ∧ w.cell? ⟨g, k * 3 + 2, none⟩ = some (.pointer (some ⟨G[k].rb, 0, none⟩))) := by
  rcases h.bins.2 with ⟨hv, h0⟩ | ⟨g, cap, cur, hv, hgb, hh, hnc, _⟩
  · exact ⟨none, 0, by rw [hv, h0], by omega, fun h => absurd h (by omega)⟩
  · refine ⟨_, cap, hv, hnc, fun _ => ⟨g, rfl, (Array.getElem?_eq_some_iff.1 hh).1, fun k hk => ?_⟩⟩
    have hb := h.bins
    subst hv
    have at_ : ∀ j, j < 3 → w.cell? ⟨g, k * 3 + j, none⟩ = (rbC G[k])[j]? := fun j hj => by rw [hb.cellAt (k * 3 + j) (by omega), rbRow_at G k hk j hj]
    exact ⟨at_ 0 (by decide), at_ 1 (by decide), at_ 2 (by decide)⟩
theorem ORN.vff (h : ORN n vf vb E G w) : ∃ A c, vf = .slice A E.length c ∧ E.length ≤ c ∧ (0 < E.length → ∃ g o, A = some ⟨g, o, none⟩ ∧ g < w.heap.size ∧ ∀ k (hk : k < E.length),
    w.cell? ⟨g, o + k * 4, none⟩ = some (VT E[k].1.name) ∧ w.cell? ⟨g, o + k * 4 + 1, none⟩ = some (.int .i64 E[k].1.len) ∧ w.cell? ⟨g, o + k * 4 + 2, none⟩ = some (.int .u32 (E[k].1.print : Int)) ∧ w.cell? ⟨g, o + k * 4 + 3, none⟩ = some E[k].2) := by
  obtain ⟨A, c, hv, hl, hc, hx⟩ := h.files
  refine ⟨A, c, hv, hc, fun h0 => ?_⟩
  obtain ⟨g, o, hA, hg, hcell⟩ := hx h0
  refine ⟨g, o, hA, hg, fun k hk => ?_⟩
  have at_ : ∀ j u, j < 4 → (rcK.cells E[k].1 E[k].2)[j]? = some u → w.cell? ⟨g, o + k * 4 + j, none⟩ = some u := fun j u hj hu => by
    have := hcell (k * 4 + j) u (by have h2 := rcK.row_at E k hk j hj; rw [show rcK.n = 4 from rfl] at h2; rw [h2]; exact hu)
    rw [Nat.add_assoc]; exact this
  exact ⟨at_ 0 _ (by decide) rfl, at_ 1 _ (by decide) rfl, at_ 2 _ (by decide) rfl, at_ 3 _ (by decide) rfl⟩
theorem RdC.own_lt {B size m g : Nat} {v : Value} {xs : List Value} (h : RdC w B size v m xs) (h0 : 0 < m) (e : v.ownBlock = some g) : g < B := by
  obtain ⟨A, c, hv, _, _, hx⟩ := h
  obtain ⟨g', o, hA, hg, _⟩ := hx h0
  rw [hv, hA] at e
  injection e with e
  subst e
  exact hg
theorem ORN.rlt (h : ORN n vf vb E G w) : ∀ k, rR vf E k → k < w.heap.size := fun k hk => by
  rcases hk with ⟨e, ne⟩ | ⟨x, hx, e, ne⟩
  · exact h.files.own_lt (List.length_pos_iff.2 ne) e
  · exact RdC.own_lt (h.ids x hx) (List.length_pos_iff.2 ne) e
theorem ORN.foot (h : ORN n vf vb E G w) : (rFoot n vf vb E G).lt w.heap.size := fun k hk => by
  rcases hk with hk | hk
  · rcases blk_iff.1 hk with rfl | e | ⟨q, hq, rfl | e⟩
    · exact h.nlt
    · exact own_ltN h.bins e
    · exact (h.bin q hq).lt
    · exact own_ltN (h.bin q hq).own e
  · exact h.rlt k hk
end
/-! ### walks -/
set_option maxRecDepth 100000 in
set_option maxHeartbeats 1000000 in
theorem RNFind_raw (n : Nat) (vf vb : Value) (E : REL) (G : List RBE) (hl : E.length ≤ 1000000) (nm : Bytes) (w : World) (h : ORN n vf vb E G w) :
    Calls Tryz.prog 52 #[.pointer (some ⟨n, 0, none⟩), .string (bs nm)] w fun e w' => e = .returned (.int .i64 (ixP (fun x => decide (x.1.name = nm)) E)) ∧ w = w' := by
  have c0 := h.c0
  obtain ⟨A, c, hvf, hcap, hx⟩ := h.vff
  subst hvf
  have HX := Lib.hid hx
  clear hx h
  go_enter Tryz.func52, Tryz.ntmps52
  go_wp2
  go_loopg [5] E.length (fun gh v5 wr => ∃ k : Nat, v5 = .int .i64 k ∧ k ≤ E.length ∧ gh = E.length - k ∧ Hid (∀ j (hj : j < k) (hl : j < E.length), decide (E[j].1.name = nm) = false) ∧ w = wr)
  case atStart => exact ⟨0, rfl, Nat.zero_le _, rfl, Lib.hid (fun j hj => absurd hj (Nat.not_lt_zero _)), rfl⟩
  case round =>
    obtain ⟨k, rfl, hk, hgm, HI, rfl⟩ := hrel
    by_cases hkl : k < E.length
    · obtain ⟨g, o, rfl, hg, hcells⟩ := HX.out (by omega)
      obtain ⟨x0, _, _, _⟩ := hcells k hkl
      have b1 : (0 : Int) ≤ (k : Int) := by omega
      have b2 : (k : Int) < (E.length : Int) := by omega
      clear hcells
      by_cases he : E[k].1.name = nm
      · have hlq : ((bs E[k].1.name).toList == (bs nm).toList) = true := by rw [he]; exact beq_self_eq_true _
        have HQ := Lib.hid (ixP_at (p := fun x : Rcp × Value => decide (x.1.name = nm)) hkl (fun j hj => HI.out j hj (by omega)) (decide_eq_true he))
        clear he
        go_wp2
        go_ret
        exact ⟨by rw [HQ.out]; rfl, rfl⟩
      · have hlq : ((bs E[k].1.name).toList == (bs nm).toList) = false := by rw [ByteArray.toList_eq, ByteArray.toList_eq, bs_toList, bs_toList]; exact beq_eq_false_iff_ne.2 he
        have HN : Hid (∀ j (hj : j < k + 1) (hl : j < E.length), decide (E[j].1.name = nm) = false) := Lib.hid (fun j hj hl => by
          by_cases e : j = k
          · subst e; exact decide_eq_false he
          · exact HI.out j (by omega) hl)
        clear he
        go_wp2
        go_roundg (E.length - (k + 1))
        case measure => omega
        case rel => exact ⟨k + 1, by go_num, hkl, rfl, HN, rfl⟩
    · obtain rfl : k = E.length := by omega
      have HQ := Lib.hid (ixP_none (p := fun x : Rcp × Value => decide (x.1.name = nm)) (fun j hj => HI.out j hj hj))
      go_wp2
      go_ret
      exact ⟨by rw [HQ.out]; rfl, rfl⟩
set_option maxRecDepth 100000 in
set_option maxHeartbeats 1000000 in
theorem RNFindB_raw (n : Nat) (vf vb : Value) (E : REL) (G : List RBE) (hl : G.length ≤ 1000000) (x : Idn) (w : World) (h : ORN n vf vb E G w) :
    Calls Tryz.prog 53 #[.pointer (some ⟨n, 0, none⟩), idV x] w fun e w' => e = .returned (.int .i64 (ixP (fun q => decide (q.x = x)) G)) ∧ Below w.heap.size w w' := by
  have hb1 : Below w.heap.size w (w.alloc (.cells #[.int .u32 (x.1 : Int), .int .i64 x.2] 47)) := (Below.refl _ _).alloc (Nat.le_refl _) _
  have hn := h.nlt
  have HC1 := Lib.hid h.c1
  obtain ⟨A, c, hvb, hcap, hx⟩ := h.vbf
  subst hvb
  have HX := Lib.hid hx
  have HB1 := Lib.hid hb1
  have BX1 := Lib.hid (Box2.mk' w (.int .u32 (x.1 : Int)) (.int .i64 x.2) 47)
  clear hx h hb1
  go_enter Tryz.func53, Tryz.ntmps53
  go_wp2
  generalize (w.alloc (.cells #[.int .u32 (x.1 : Int), .int .i64 x.2] 47)) = w1 at *
  go_loopg [5] G.length (fun gh v5 wr => ∃ k : Nat, v5 = .int .i64 k ∧ k ≤ G.length ∧ gh = G.length - k ∧ Hid (∀ j (hj : j < k) (hl : j < G.length), decide (G[j].x = x) = false) ∧ Hid (Below w1.heap.size w1 wr))
  case atStart => exact ⟨0, rfl, Nat.zero_le _, rfl, Lib.hid (fun j hj => absurd hj (Nat.not_lt_zero _)), Lib.hid (Below.refl _ _)⟩
  case round =>
    obtain ⟨k, rfl, hk, hgm, HI, HBr⟩ := hrel
    have HBw := Lib.hid (HB1.out.trans (HBr.out.mono HB1.out.size))
    have c1 := (HBw.out.cell (p := ⟨n, 1, none⟩) hn).trans HC1.out
    by_cases hkl : k < G.length
    · obtain ⟨g, rfl, hg, hcells⟩ := HX.out (by omega)
      obtain ⟨x0, x1, _⟩ := hcells k hkl
      have y0 := (HBw.out.cell (p := ⟨g, k * 3, none⟩) hg).trans x0
      have y1 := (HBw.out.cell (p := ⟨g, k * 3 + 1, none⟩) hg).trans x1
      obtain ⟨z0, z1, _, _⟩ := BX1.out.below HBr.out BX1.out.lt
      have b1 : (0 : Int) ≤ (k : Int) := by omega
      have b2 : (k : Int) < (G.length : Int) := by omega
      clear hcells x0 x1
      by_cases he : G[k].x = x
      · obtain ⟨t1, t2⟩ := idq_eqs he
        have HQ := Lib.hid (ixP_at (p := fun q : RBE => decide (q.x = x)) hkl (fun j hj => HI.out j hj (by omega)) (decide_eq_true he))
        clear he
        go_wp2
        go_quiet (fail)
        have hbd := below_drewN (Below.refl wr.heap.size wr) nq
        have HBd := Lib.hid (HBr.out.trans (hbd.mono HBr.out.size))
        clear hbd
        go_wp2
        go_ret
        exact ⟨by rw [HQ.out]; rfl, HB1.out.trans (HBd.out.mono HB1.out.size)⟩
      · have HN : Hid (∀ j (hj : j < k + 1) (hl : j < G.length), decide (G[j].x = x) = false) := Lib.hid (fun j hj hl => by
          by_cases e : j = k
          · subst e; exact decide_eq_false he
          · exact HI.out j (by omega) hl)
        have hne := idq_ne he
        clear he
        rcases hne with t1 | ⟨t1, t2⟩
        · skip
          go_wp2
          go_quiet (fail)
          have hbd := below_drewN (Below.refl wr.heap.size wr) nq
          have HBd := Lib.hid (HBr.out.trans (hbd.mono HBr.out.size))
          clear hbd
          go_wp2
          go_roundg (G.length - (k + 1))
          case measure => omega
          case rel => exact ⟨k + 1, by go_num, hkl, rfl, HN, HBd⟩
        · skip
          go_wp2
          go_quiet (fail)
          have hbd := below_drewN (Below.refl wr.heap.size wr) nq
          have HBd := Lib.hid (HBr.out.trans (hbd.mono HBr.out.size))
          clear hbd
          go_wp2
          go_roundg (G.length - (k + 1))
          case measure => omega
          case rel => exact ⟨k + 1, by go_num, hkl, rfl, HN, HBd⟩
    · obtain rfl : k = G.length := by omega
      have HQ := Lib.hid (ixP_none (p := fun q : RBE => decide (q.x = x)) (fun j hj => HI.out j hj hj))
      go_wp2
      go_ret
      exact ⟨by rw [HQ.out]; rfl, HBw.out⟩
end Go.Proofs.YtpanoplcamdnkaaGreatDoor
/- The reference's Node: walks of Names, Reps, Size, OfRep. No conditions but bounds. -/
namespace Go.Proofs.YtpanoplcamdnkaaGreatDoor
open Go.RowKit Go.Lib

theorem cells_new1 (w : World) (x : Value) (t : TypeId) : ∀ j q, [x][j]? = some q → (w.alloc (.cells #[x] t)).cell? ((⟨w.heap.size, 0, none⟩ : Addr).add j) = some q := by
  intro j q hj
  rw [add_eqM, Nat.zero_add, World.cell?_alloc_at _ _ _ _ rfl]
  match j, hj with
  | 0, hj => exact hj
theorem cells_new2 (w : World) (a b : Value) (t : TypeId) : ∀ j u, [a, b][j]? = some u → (w.alloc (.cells #[a, b] t)).cell? ((⟨w.heap.size, 0, none⟩ : Addr).add j) = some u := by
  intro j u h
  rw [add_eqM, Nat.zero_add, World.cell?_alloc_at _ _ _ _ rfl]
  match j, h with
  | 0, h => exact h
  | 1, h => exact h
theorem info_strR : (Tryz.prog.info? 9).map (fun i => (i.zero, i.size, i.bytes)) = some (some (.string ByteArray.empty), 1, 16) := by kernel_rfl
theorem info_idR : (Tryz.prog.info? 47).map (fun i => (i.zero, i.size, i.bytes)) = some (some (.agg #[.int .u32 0, .int .i64 0]), 2, 16) := by kernel_rfl
/-- how many bytes the first bins have -/
def sumG (G : List RBE) : Int := (G.map fun q => sizeB q.L).sum
theorem sumG_succ {G : List RBE} {k : Nat} (hk : k < G.length) : sumG (G.take (k + 1)) = sumG (G.take k) + sizeB G[k].L := by
  unfold sumG
  rw [List.take_succ_eq_append_getElem hk, List.map_append, List.sum_append, List.map_cons, List.map_nil, List.sum_cons, List.sum_nil, Int.add_zero]
theorem sumG_bnd {G : List RBE} (h : ∀ q ∈ G, 0 ≤ sizeB q.L ∧ sizeB q.L ≤ 16000) : 0 ≤ sumG G ∧ sumG G ≤ 16000 * G.length := by
  unfold sumG
  induction G with
  | nil => simp
  | cons q r ih =>
    have h1 := ih (fun z hz => h z (List.mem_cons_of_mem _ hz))
    have h2 := h q List.mem_cons_self
    rw [List.map_cons, List.sum_cons, List.length_cons]
    omega
def ofE (x : Idn) (E : REL) : List Bytes := (E.filter fun q => decide (repOf q.1.ids = x)).map (·.1.name)
theorem ofE_yes {x : Idn} {E : REL} {k : Nat} (hk : k < E.length) (h : repOf E[k].1.ids = x) : ofE x (E.take (k + 1)) = ofE x (E.take k) ++ [E[k].1.name] := by
  unfold ofE
  rw [List.take_succ_eq_append_getElem hk, List.filter_append, List.map_append, List.filter_cons, if_pos (by simp [h])]; rfl
theorem ofE_no {x : Idn} {E : REL} {k : Nat} (hk : k < E.length) (h : repOf E[k].1.ids ≠ x) : ofE x (E.take (k + 1)) = ofE x (E.take k) := by
  unfold ofE
  rw [List.take_succ_eq_append_getElem hk, List.filter_append, List.map_append, List.filter_cons, if_neg (by simp [h])]; simp
set_option maxRecDepth 100000 in
set_option maxHeartbeats 1000000 in
theorem RNNames_raw (n : Nat) (vf vb : Value) (E : REL) (G : List RBE) (hl : E.length ≤ 1000000) (w : World) (h : ORN n vf vb E G w) :
    Calls Tryz.prog 101 #[.pointer (some ⟨n, 0, none⟩)] w fun e w' => ∃ v, e = .returned v ∧ w'.ownsRow w.heap.size 9 1 v E.length ((E.map (·.1.name)).map VT) ∧ Below w.heap.size w w' := by
  obtain ⟨i0, hi, hz0, hz1, hz2⟩ := info_parts info_strR
  have hn := h.nlt
  have HC0 := Lib.hid h.c0
  obtain ⟨A, c, hvf, hcap, hx⟩ := h.vff
  subst hvf
  have HX := Lib.hid hx
  clear hx h
  go_enter Tryz.func101, Tryz.ntmps101
  go_wp2
  go_loopg [3, 4] E.length (fun gh v3 v4 wr => ∃ k : Nat, v4 = .int .i64 k ∧ k ≤ E.length ∧ gh = E.length - k ∧ Hid (wr.ownsRow w.heap.size 9 1 v3 k (((E.take k).map (·.1.name)).map VT)) ∧ Hid (Below w.heap.size w wr))
  case atStart => exact ⟨0, rfl, Nat.zero_le _, rfl, Lib.hid (World.ownsRow_nil _ _ _ _), Lib.hid (Below.refl _ _)⟩
  case round =>
    obtain ⟨k, rfl, hk, hgm, HO, HBr⟩ := hrel
    obtain ⟨A3, c3, hv3⟩ := own_formI HO.out
    subst hv3
    have c0 := (HBr.out.cell (p := ⟨n, 0, none⟩) hn).trans HC0.out
    by_cases hkl : k < E.length
    · obtain ⟨g, o, rfl, hg, hcells⟩ := HX.out (by omega)
      obtain ⟨x0, _, _, _⟩ := hcells k hkl
      have y0 := (HBr.out.cell (p := ⟨g, o + k * 4, none⟩) hg).trans x0
      have b1 : (0 : Int) ≤ (k : Int) := by omega
      have b2 : (k : Int) < (E.length : Int) := by omega
      have HTK : Hid (E.take (k + 1) = E.take k ++ [E[k]]) := Lib.hid (List.take_succ_eq_append_getElem hkl)
      generalize E[k] = q at *
      obtain ⟨r, sl⟩ := q
      simp only at y0
      have hba : Below wr.heap.size wr (wr.alloc (.cells #[.string (bs r.name)] 9)) := (Below.refl _ _).alloc (Nat.le_refl _) _
      have HOa := Lib.hid (own_belowI HO.out hba)
      have HBa := Lib.hid (HBr.out.trans (hba.mono HBr.out.size))
      clear hcells x0 hba
      go_wp2_with (first | (at_builtin; refine wpList_append_own_at _ rfl (.tmp 14) (.tmp 23) 27 rfl w.heap.size 9 i0 (.string ByteArray.empty) 1 16 Tryz.underlying27 hi hz0 hz1 hz2 rfl (by decide) _ _ _ rfl HOa.out ⟨wr.heap.size, 0, none⟩ 1 1 [.string (bs r.name)] rfl rfl (cells_new1 _ _ _) (by simp [Value.oneCell']) (by unfold maxLen; omega) (by omega) HBa.out.size ?_; intro v7 w7 ho7 hg7 _ ha7) | fail)
      have HO7 : Hid (w7.ownsRow w.heap.size 9 1 v7 (k + 1) (((E.take (k + 1)).map (·.1.name)).map VT)) := Lib.hid (by rw [HTK.out, List.map_append, List.map_append]; exact ho7)
      have HB7 := Lib.hid (HBa.out.grown hg7 HBa.out.size (fun g e => own_ge HOa.out e))
      clear ho7 hg7 ha7
      go_wp2
      go_roundg (E.length - (k + 1))
      case measure => omega
      case rel => exact ⟨k + 1, by go_num, hkl, rfl, HO7, HB7⟩
    · obtain rfl : k = E.length := by omega
      have HQ : Hid (∃ v, Ending.returned (.slice A3 E.length c3) = .returned v ∧ wr.ownsRow w.heap.size 9 1 v E.length ((E.map (·.1.name)).map VT) ∧ Below w.heap.size w wr) := Lib.hid ⟨_, rfl, by have := HO.out; rwa [List.take_length] at this, HBr.out⟩
      go_wp2
      go_ret
      exact HQ.out
set_option maxRecDepth 100000 in
set_option maxHeartbeats 1000000 in
theorem RNReps_raw (n : Nat) (vf vb : Value) (E : REL) (G : List RBE) (hl : G.length ≤ 1000000) (w : World) (h : ORN n vf vb E G w) :
    Calls Tryz.prog 103 #[.pointer (some ⟨n, 0, none⟩)] w fun e w' => ∃ v, e = .returned v ∧ w'.ownsRow w.heap.size 47 2 v G.length (idRow (G.map (·.x))) ∧ Below w.heap.size w w' := by
  obtain ⟨i0, hi, hz0, hz1, hz2⟩ := info_parts info_idR
  have hn := h.nlt
  have HC1 := Lib.hid h.c1
  obtain ⟨A, c, hvb, hcap, hx⟩ := h.vbf
  subst hvb
  have HX := Lib.hid hx
  clear hx h
  go_enter Tryz.func103, Tryz.ntmps103
  go_wp2
  go_loopg [3, 4] G.length (fun gh v3 v4 wr => ∃ k : Nat, v4 = .int .i64 k ∧ k ≤ G.length ∧ gh = G.length - k ∧ Hid (wr.ownsRow w.heap.size 47 2 v3 k (idRow ((G.take k).map (·.x)))) ∧ Hid (Below w.heap.size w wr))
  case atStart => exact ⟨0, rfl, Nat.zero_le _, rfl, Lib.hid (World.ownsRow_nil _ _ _ _), Lib.hid (Below.refl _ _)⟩
  case round =>
    obtain ⟨k, rfl, hk, hgm, HO, HBr⟩ := hrel
    obtain ⟨A3, c3, hv3⟩ := own_formI HO.out
    subst hv3
    have c1 := (HBr.out.cell (p := ⟨n, 1, none⟩) hn).trans HC1.out
    by_cases hkl : k < G.length
    · obtain ⟨g, rfl, hg, hcells⟩ := HX.out (by omega)
      obtain ⟨x0, x1, _⟩ := hcells k hkl
      have y0 := (HBr.out.cell (p := ⟨g, k * 3, none⟩) hg).trans x0
      have y1 := (HBr.out.cell (p := ⟨g, k * 3 + 1, none⟩) hg).trans x1
      have b1 : (0 : Int) ≤ (k : Int) := by omega
      have b2 : (k : Int) < (G.length : Int) := by omega
      have HTK : Hid (G.take (k + 1) = G.take k ++ [G[k]]) := Lib.hid (List.take_succ_eq_append_getElem hkl)
      generalize G[k] = q at *
      have hba : Below wr.heap.size wr (wr.alloc (.cells #[.int .u32 (q.x.1 : Int), .int .i64 q.x.2] 47)) := (Below.refl _ _).alloc (Nat.le_refl _) _
      have HOa := Lib.hid (own_belowI HO.out hba)
      have HBa := Lib.hid (HBr.out.trans (hba.mono HBr.out.size))
      clear hcells x0 x1 hba
      go_wp2_with (first | (at_builtin; refine wpList_append_own_at _ rfl (.tmp 14) (.tmp 23) 44 rfl w.heap.size 47 i0 (.agg #[.int .u32 0, .int .i64 0]) 2 16 Tryz.underlying44 hi hz0 hz1 hz2 rfl (by decide) _ _ _ rfl HOa.out ⟨wr.heap.size, 0, none⟩ 1 1 [.int .u32 (q.x.1 : Int), .int .i64 q.x.2] rfl rfl (cells_new2 _ _ _ _) (by simp [Value.oneCell']) (by unfold maxLen; omega) (by omega) HBa.out.size ?_; intro v7 w7 ho7 hg7 _ ha7) | fail)
      have HO7 : Hid (w7.ownsRow w.heap.size 47 2 v7 (k + 1) (idRow ((G.take (k + 1)).map (·.x)))) := Lib.hid (by rw [HTK.out, List.map_append, idRow_append]; exact ho7)
      have HB7 := Lib.hid (HBa.out.grown hg7 HBa.out.size (fun g e => own_ge HOa.out e))
      clear ho7 hg7 ha7
      go_wp2
      go_roundg (G.length - (k + 1))
      case measure => omega
      case rel => exact ⟨k + 1, by go_num, hkl, rfl, HO7, HB7⟩
    · obtain rfl : k = G.length := by omega
      have HQ : Hid (∃ v, Ending.returned (.slice A3 G.length c3) = .returned v ∧ wr.ownsRow w.heap.size 47 2 v G.length (idRow (G.map (·.x))) ∧ Below w.heap.size w wr) := Lib.hid ⟨_, rfl, by have := HO.out; rwa [List.take_length] at this, HBr.out⟩
      go_wp2
      go_ret
      exact HQ.out
set_option maxRecDepth 100000 in
set_option maxHeartbeats 1000000 in
theorem RNSize_raw (n : Nat) (vf vb : Value) (E : REL) (G : List RBE) (hl : G.length ≤ 1000) (hG : ∀ q ∈ G, q.L.length ≤ 250 ∧ (∀ y ∈ q.L, 0 ≤ y.id.2 ∧ y.id.2 ≤ 64) ∧ 0 ≤ sizeB q.L ∧ sizeB q.L ≤ 16000) (w : World) (h : ORN n vf vb E G w) :
    Calls Tryz.prog 99 #[.pointer (some ⟨n, 0, none⟩)] w fun e w' => e = .returned (.int .i64 (sumG G)) ∧ Below w.heap.size w w' := by
  have hn := h.nlt
  have HC1 := Lib.hid h.c1
  have HN := Lib.hid h
  have HGG := Lib.hid hG
  obtain ⟨A, c, hvb, hcap, hx⟩ := h.vbf
  subst hvb
  have HX := Lib.hid hx
  clear hx h hG
  go_enter Tryz.func99, Tryz.ntmps99
  go_wp2
  go_loopg [3, 4] G.length (fun gh v3 v4 wr => ∃ k : Nat, v4 = .int .i64 k ∧ v3 = .int .i64 (sumG (G.take k)) ∧ k ≤ G.length ∧ gh = G.length - k ∧ Hid (Below w.heap.size w wr))
  case atStart => exact ⟨0, rfl, rfl, Nat.zero_le _, rfl, Lib.hid (Below.refl _ _)⟩
  case round =>
    obtain ⟨k, rfl, rfl, hk, hgm, HBr⟩ := hrel
    have c1 := (HBr.out.cell (p := ⟨n, 1, none⟩) hn).trans HC1.out
    by_cases hkl : k < G.length
    · obtain ⟨g, rfl, hg, hcells⟩ := HX.out (by omega)
      obtain ⟨_, _, x2⟩ := hcells k hkl
      have y2 := (HBr.out.cell (p := ⟨g, k * 3 + 2, none⟩) hg).trans x2
      have b1 : (0 : Int) ≤ (k : Int) := by omega
      have b2 : (k : Int) < (G.length : Int) := by omega
      obtain ⟨hg1, hg2, hg3, hg4⟩ := HGG.out G[k] (List.getElem_mem hkl)
      have hsb := sumG_bnd (G := G.take k) (fun q hq => (HGG.out q (List.mem_of_mem_take hq)).2.2)
      have hkt : (G.take k).length = k := by rw [List.length_take]; omega
      have HSZ := Lib.hid (RBSize_any G[k].rb 0 G[k].v G[k].L (by omega) hg2 wr ((HN.out.bin _ (List.getElem_mem hkl)).below HBr.out))
      have HSS := Lib.hid (sumG_succ hkl)
      rw [hkt] at hsb
      generalize G[k] = q at *
      generalize sumG (G.take k) = s at *
      generalize sizeB q.L = z at *
      clear hcells x2 hkt hg2
      go_wp2_with fail
      refine HSZ.out.mono ?_
      rintro e w3 ⟨rfl, hw3⟩
      subst hw3
      have HB3 := HBr
      clear HSZ
      go_wp2
      go_roundg (G.length - (k + 1))
      case measure => omega
      case rel => exact ⟨k + 1, by go_num, by rw [HSS.out], hkl, rfl, HB3⟩
    · obtain rfl : k = G.length := by omega
      have HTL : Hid (G.take G.length = G) := Lib.hid List.take_length
      go_wp2
      go_ret
      exact ⟨by rw [HTL.out]; rfl, HBr.out⟩
set_option maxRecDepth 100000 in
set_option maxHeartbeats 1500000 in
theorem RNOfRep_raw (n : Nat) (vf vb : Value) (E : REL) (G : List RBE) (hl : E.length ≤ 1000) (hE : ∀ q ∈ E, q.1.ids.length ≤ 1000000) (x : Idn) (w : World) (h : ORN n vf vb E G w) :
    Calls Tryz.prog 154 #[.pointer (some ⟨n, 0, none⟩), idV x] w fun e w' => ∃ v, e = .returned v ∧ w'.ownsRow w.heap.size 9 1 v (ofE x E).length ((ofE x E).map VT) ∧ Below w.heap.size w w' := by
  obtain ⟨i0, hi, hz0, hz1, hz2⟩ := info_parts info_strR
  have hb1 : Below w.heap.size w (w.alloc (.cells #[.int .u32 (x.1 : Int), .int .i64 x.2] 47)) := (Below.refl _ _).alloc (Nat.le_refl _) _
  have hn := h.nlt
  have HC0 := Lib.hid h.c0
  have HN := Lib.hid h
  have HEI := Lib.hid hE
  obtain ⟨A, c, hvf, hcap, hx⟩ := h.vff
  subst hvf
  have HX := Lib.hid hx
  have HB1 := Lib.hid hb1
  have BX1 := Lib.hid (Box2.mk' w (.int .u32 (x.1 : Int)) (.int .i64 x.2) 47)
  clear hx h hE hb1
  go_enter Tryz.func154, Tryz.ntmps154
  go_wp2
  generalize (w.alloc (.cells #[.int .u32 (x.1 : Int), .int .i64 x.2] 47)) = w1 at *
  go_loopg [5, 6] E.length (fun gh v5 v6 wr => ∃ (k q : Nat), v6 = .int .i64 k ∧ k ≤ E.length ∧ gh = E.length - k ∧ Hid (q = (ofE x (E.take k)).length) ∧ q ≤ k ∧ Hid (wr.ownsRow w1.heap.size 9 1 v5 q ((ofE x (E.take k)).map VT)) ∧ Hid (Below w1.heap.size w1 wr))
  case atStart => exact ⟨0, 0, rfl, Nat.zero_le _, rfl, Lib.hid rfl, Nat.le_refl _, Lib.hid (World.ownsRow_nil _ _ _ _), Lib.hid (Below.refl _ _)⟩
  case round =>
    obtain ⟨k, q, rfl, hk, hgm, HQ, hqk, HO, HBr⟩ := hrel
    obtain ⟨A5, c5, hv5⟩ := own_formI HO.out
    subst hv5
    have HBw := Lib.hid (HB1.out.trans (HBr.out.mono HB1.out.size))
    have c0 := (HBw.out.cell (p := ⟨n, 0, none⟩) hn).trans HC0.out
    by_cases hkl : k < E.length
    · obtain ⟨g, o, rfl, hg, hcells⟩ := HX.out (by omega)
      obtain ⟨x0, x1, x2, x3⟩ := hcells k hkl
      have hrc := HEI.out E[k] (List.getElem_mem hkl)
      have hids := HN.out.ids E[k] (List.getElem_mem hkl)
      obtain ⟨SA, sc, hsv, _⟩ := hids.form
      have HNY := Lib.hid (fun h => ofE_yes hkl (x := x) h)
      have HNN := Lib.hid (fun h => ofE_no hkl (x := x) h)
      have C0 := Lib.hid c0
      have hnr : n < wr.heap.size := Nat.lt_of_lt_of_le hn HBw.out.size
      have hgr : g < wr.heap.size := Nat.lt_of_lt_of_le hg HBw.out.size
      generalize E[k] = q0 at *
      obtain ⟨r, sl⟩ := q0
      simp only at hsv x0 x1 x2 x3 hids hrc HNY HNN
      subst hsv
      have Y0 := Lib.hid ((HBw.out.cell (p := ⟨g, o + k * 4, none⟩) hg).trans x0)
      have Y1 := Lib.hid ((HBw.out.cell (p := ⟨g, o + k * 4 + 1, none⟩) hg).trans x1)
      have Y2 := Lib.hid ((HBw.out.cell (p := ⟨g, o + k * 4 + 2, none⟩) hg).trans x2)
      have Y3 := Lib.hid ((HBw.out.cell (p := ⟨g, o + k * 4 + 3, none⟩) hg).trans x3)
      have HSr := Lib.hid ((hids.keep HBw.out (Nat.le_refl _)).more HBw.out.size)
      have BXr := Lib.hid (BX1.out.below HBr.out BX1.out.lt)
      have b1 : (0 : Int) ≤ (k : Int) := by omega
      have b2 : (k : Int) < (E.length : Int) := by omega
      have X0 := Lib.hid x0
      clear hcells x0 x1 x2 x3 hids
      by_cases he : repOf r.ids = x
      · obtain ⟨t1, t2⟩ := idq_eqs he
        have HN2 := Lib.hid (HNY.out he)
        clear he
        go_wp2
        have hS0 : Below wr.heap.size wr wr.drew := (Below.refl _ _).drew
        refine region_S (fun w' => Below wr.heap.size wr w') 9 (by kernel_rfl) (by kernel_rfl) ?_
        refine take_S 0 rfl (by kernel_rfl) (by kernel_rfl) hS0 (fun w' hS => by go_simp; rfl) ?_
        refine take_S 1 rfl (by kernel_rfl) (by kernel_rfl) hS0 (fun w' hS => by go_simp; rfl) ?_
        refine take_S 2 rfl (by kernel_rfl) (by kernel_rfl) hS0 (fun w' hS => by go_simp; rfl) ?_
        refine take_S 3 rfl (by kernel_rfl) (by kernel_rfl) hS0 (fun w' hS => by have A0 := (hS.cell (p := ⟨n, 0, none⟩) hnr).trans C0.out; go_simp; rfl) ?_
        refine take_S 4 rfl (by kernel_rfl) (by kernel_rfl) hS0 (fun w' hS => by go_simp; rfl) ?_
        refine take_S 5 rfl (by kernel_rfl) (by kernel_rfl) hS0 (fun w' hS => by go_simp; rfl) ?_
        refine take_S 6 rfl (by kernel_rfl) (by kernel_rfl) hS0 (fun w' hS => by have A0 := (hS.cell (p := ⟨g, o + k * 4, none⟩) hgr).trans Y0.out; have A1 := (hS.cell (p := ⟨g, o + k * 4 + 1, none⟩) hgr).trans Y1.out; have A2 := (hS.cell (p := ⟨g, o + k * 4 + 2, none⟩) hgr).trans Y2.out; have A3 := (hS.cell (p := ⟨g, o + k * 4 + 3, none⟩) hgr).trans Y3.out; go_simp; rfl) ?_
        refine take_S 8 rfl (by kernel_rfl) (by kernel_rfl) hS0 (fun w' hS => by obtain ⟨A0, A1, _, _⟩ := BXr.out.below hS BXr.out.lt; go_simp; rfl) ?_
        refine carry_S 7 rfl (by kernel_rfl) (by decide) (by kernel_rfl) (fun K hK => ?_)
        go_simp
        refine (RRepOf_any (.agg #[VT r.name, .int .i64 r.len, .int .u32 (r.print : Int), .slice SA r.ids.length sc]) r hrc _ ⟨_, rfl, (HSr.out.keep hS0 (Nat.le_refl _)).more hS0.size⟩).mono ?_
        rintro e w4 ⟨rfl, hbw4⟩
        have hS1 : Below wr.heap.size wr w4 := hS0.trans (hbw4.mono hS0.size)
        refine hK _ _ hS1 (forced_S (by kernel_rfl) ?_)
        clear hK K
        try simp only [Act.put, List.getElem_toArray, List.getElem_cons_succ, List.getElem_cons_zero, List.setIfInBounds_toArray, List.set_cons_zero, List.set_cons_succ]
        try simp only [Act.put, List.getElem_toArray, List.getElem_cons_succ, List.getElem_cons_zero, List.setIfInBounds_toArray, List.set_cons_zero, List.set_cons_succ]
        simp only [List.drop_succ_cons, List.drop_zero]
        have HBd := Lib.hid (HBr.out.trans (hS1.mono HBr.out.size))
        have HOd := Lib.hid (own_belowI HO.out hS1)
        clear hS0 hS1 hbw4
        have hgd : g < w4.heap.size := Nat.lt_of_lt_of_le hg (HB1.out.trans (HBd.out.mono HB1.out.size)).size
        have y0 := ((HB1.out.trans (HBd.out.mono HB1.out.size)).cell (p := ⟨g, o + k * 4, none⟩) hg).trans X0.out
        have c0 := ((HB1.out.trans (HBd.out.mono HB1.out.size)).cell (p := ⟨n, 0, none⟩) hn).trans HC0.out
        have hba : Below w4.heap.size w4 (w4.alloc (.cells #[.string (bs r.name)] 9)) := (Below.refl _ _).alloc (Nat.le_refl _) _
        have HOa := Lib.hid (own_belowI HOd.out hba)
        have HBa := Lib.hid (HBd.out.trans (hba.mono HBd.out.size))
        clear hba
        go_wp2_with (first | (at_builtin; refine wpList_append_own_at _ rfl (.tmp 26) (.tmp 35) 27 rfl w1.heap.size 9 i0 (.string ByteArray.empty) 1 16 Tryz.underlying27 hi hz0 hz1 hz2 rfl (by decide) _ _ _ rfl HOa.out ⟨w4.heap.size, 0, none⟩ 1 1 [.string (bs r.name)] rfl rfl (cells_new1 _ _ _) (by simp [Value.oneCell']) (by unfold maxLen; omega) (by omega) HBa.out.size ?_; intro v7 w7 ho7 hg7 _ ha7) | fail)
        have HO7 : Hid (w7.ownsRow w1.heap.size 9 1 v7 (q + 1) ((ofE x (E.take (k + 1))).map VT)) := Lib.hid (by rw [HN2.out, List.map_append]; exact ho7)
        have HQ7 : Hid (q + 1 = (ofE x (E.take (k + 1))).length) := Lib.hid (by rw [HN2.out, List.length_append, ← HQ.out]; rfl)
        have HB7 := Lib.hid (HBa.out.grown hg7 HBa.out.size (fun g e => own_ge HOa.out e))
        clear ho7 hg7 ha7
        go_wp2
        go_roundg (E.length - (k + 1))
        case measure => omega
        case rel => exact ⟨k + 1, q + 1, by go_num, hkl, rfl, HQ7, by omega, HO7, HB7⟩
      · have HN2 := Lib.hid (HNN.out he)
        have hne := idq_ne he
        clear he
        rcases hne with t1 | ⟨t1, t2⟩
        · skip
          go_wp2
          have hS0 : Below wr.heap.size wr wr.drew := (Below.refl _ _).drew
          refine region_S (fun w' => Below wr.heap.size wr w') 9 (by kernel_rfl) (by kernel_rfl) ?_
          refine take_S 0 rfl (by kernel_rfl) (by kernel_rfl) hS0 (fun w' hS => by go_simp; rfl) ?_
          refine take_S 1 rfl (by kernel_rfl) (by kernel_rfl) hS0 (fun w' hS => by go_simp; rfl) ?_
          refine take_S 2 rfl (by kernel_rfl) (by kernel_rfl) hS0 (fun w' hS => by go_simp; rfl) ?_
          refine take_S 3 rfl (by kernel_rfl) (by kernel_rfl) hS0 (fun w' hS => by have A0 := (hS.cell (p := ⟨n, 0, none⟩) hnr).trans C0.out; go_simp; rfl) ?_
          refine take_S 4 rfl (by kernel_rfl) (by kernel_rfl) hS0 (fun w' hS => by go_simp; rfl) ?_
          refine take_S 5 rfl (by kernel_rfl) (by kernel_rfl) hS0 (fun w' hS => by go_simp; rfl) ?_
          refine take_S 6 rfl (by kernel_rfl) (by kernel_rfl) hS0 (fun w' hS => by have A0 := (hS.cell (p := ⟨g, o + k * 4, none⟩) hgr).trans Y0.out; have A1 := (hS.cell (p := ⟨g, o + k * 4 + 1, none⟩) hgr).trans Y1.out; have A2 := (hS.cell (p := ⟨g, o + k * 4 + 2, none⟩) hgr).trans Y2.out; have A3 := (hS.cell (p := ⟨g, o + k * 4 + 3, none⟩) hgr).trans Y3.out; go_simp; rfl) ?_
          refine take_S 8 rfl (by kernel_rfl) (by kernel_rfl) hS0 (fun w' hS => by obtain ⟨A0, A1, _, _⟩ := BXr.out.below hS BXr.out.lt; go_simp; rfl) ?_
          refine carry_S 7 rfl (by kernel_rfl) (by decide) (by kernel_rfl) (fun K hK => ?_)
          go_simp
          refine (RRepOf_any (.agg #[VT r.name, .int .i64 r.len, .int .u32 (r.print : Int), .slice SA r.ids.length sc]) r hrc _ ⟨_, rfl, (HSr.out.keep hS0 (Nat.le_refl _)).more hS0.size⟩).mono ?_
          rintro e w4 ⟨rfl, hbw4⟩
          have hS1 : Below wr.heap.size wr w4 := hS0.trans (hbw4.mono hS0.size)
          refine hK _ _ hS1 (forced_S (by kernel_rfl) ?_)
          clear hK K
          try simp only [Act.put, List.getElem_toArray, List.getElem_cons_succ, List.getElem_cons_zero, List.setIfInBounds_toArray, List.set_cons_zero, List.set_cons_succ]
          try simp only [Act.put, List.getElem_toArray, List.getElem_cons_succ, List.getElem_cons_zero, List.setIfInBounds_toArray, List.set_cons_zero, List.set_cons_succ]
          simp only [List.drop_succ_cons, List.drop_zero]
          have HBd := Lib.hid (HBr.out.trans (hS1.mono HBr.out.size))
          have HOd := Lib.hid (own_belowI HO.out hS1)
          clear hS0 hS1 hbw4
          have HO7 : Hid (w4.ownsRow w1.heap.size 9 1 (.slice A5 q c5) q ((ofE x (E.take (k + 1))).map VT)) := Lib.hid (by rw [HN2.out]; exact HOd.out)
          have HQ7 : Hid (q = (ofE x (E.take (k + 1))).length) := Lib.hid (by rw [HN2.out]; exact HQ.out)
          go_wp2
          go_roundg (E.length - (k + 1))
          case measure => omega
          case rel => exact ⟨k + 1, q, by go_num, hkl, rfl, HQ7, by omega, HO7, HBd⟩
        · skip
          go_wp2
          have hS0 : Below wr.heap.size wr wr.drew := (Below.refl _ _).drew
          refine region_S (fun w' => Below wr.heap.size wr w') 9 (by kernel_rfl) (by kernel_rfl) ?_
          refine take_S 0 rfl (by kernel_rfl) (by kernel_rfl) hS0 (fun w' hS => by go_simp; rfl) ?_
          refine take_S 1 rfl (by kernel_rfl) (by kernel_rfl) hS0 (fun w' hS => by go_simp; rfl) ?_
          refine take_S 2 rfl (by kernel_rfl) (by kernel_rfl) hS0 (fun w' hS => by go_simp; rfl) ?_
          refine take_S 3 rfl (by kernel_rfl) (by kernel_rfl) hS0 (fun w' hS => by have A0 := (hS.cell (p := ⟨n, 0, none⟩) hnr).trans C0.out; go_simp; rfl) ?_
          refine take_S 4 rfl (by kernel_rfl) (by kernel_rfl) hS0 (fun w' hS => by go_simp; rfl) ?_
          refine take_S 5 rfl (by kernel_rfl) (by kernel_rfl) hS0 (fun w' hS => by go_simp; rfl) ?_
          refine take_S 6 rfl (by kernel_rfl) (by kernel_rfl) hS0 (fun w' hS => by have A0 := (hS.cell (p := ⟨g, o + k * 4, none⟩) hgr).trans Y0.out; have A1 := (hS.cell (p := ⟨g, o + k * 4 + 1, none⟩) hgr).trans Y1.out; have A2 := (hS.cell (p := ⟨g, o + k * 4 + 2, none⟩) hgr).trans Y2.out; have A3 := (hS.cell (p := ⟨g, o + k * 4 + 3, none⟩) hgr).trans Y3.out; go_simp; rfl) ?_
          refine take_S 8 rfl (by kernel_rfl) (by kernel_rfl) hS0 (fun w' hS => by obtain ⟨A0, A1, _, _⟩ := BXr.out.below hS BXr.out.lt; go_simp; rfl) ?_
          refine carry_S 7 rfl (by kernel_rfl) (by decide) (by kernel_rfl) (fun K hK => ?_)
          go_simp
          refine (RRepOf_any (.agg #[VT r.name, .int .i64 r.len, .int .u32 (r.print : Int), .slice SA r.ids.length sc]) r hrc _ ⟨_, rfl, (HSr.out.keep hS0 (Nat.le_refl _)).more hS0.size⟩).mono ?_
          rintro e w4 ⟨rfl, hbw4⟩
          have hS1 : Below wr.heap.size wr w4 := hS0.trans (hbw4.mono hS0.size)
          refine hK _ _ hS1 (forced_S (by kernel_rfl) ?_)
          clear hK K
          try simp only [Act.put, List.getElem_toArray, List.getElem_cons_succ, List.getElem_cons_zero, List.setIfInBounds_toArray, List.set_cons_zero, List.set_cons_succ]
          try simp only [Act.put, List.getElem_toArray, List.getElem_cons_succ, List.getElem_cons_zero, List.setIfInBounds_toArray, List.set_cons_zero, List.set_cons_succ]
          simp only [List.drop_succ_cons, List.drop_zero]
          have HBd := Lib.hid (HBr.out.trans (hS1.mono HBr.out.size))
          have HOd := Lib.hid (own_belowI HO.out hS1)
          clear hS0 hS1 hbw4
          have HO7 : Hid (w4.ownsRow w1.heap.size 9 1 (.slice A5 q c5) q ((ofE x (E.take (k + 1))).map VT)) := Lib.hid (by rw [HN2.out]; exact HOd.out)
          have HQ7 : Hid (q = (ofE x (E.take (k + 1))).length) := Lib.hid (by rw [HN2.out]; exact HQ.out)
          go_wp2
          go_roundg (E.length - (k + 1))
          case measure => omega
          case rel => exact ⟨k + 1, q, by go_num, hkl, rfl, HQ7, by omega, HO7, HBd⟩
    · obtain rfl : k = E.length := by omega
      rw [List.take_length] at HQ HO
      have HF : Hid (∃ v, Ending.returned (.slice A5 q c5) = .returned v ∧ wr.ownsRow w.heap.size 9 1 v (ofE x E).length ((ofE x E).map VT) ∧ Below w.heap.size w wr) := Lib.hid ⟨_, rfl, by have := own_lower HO.out HB1.out.size; rwa [HQ.out] at this ⊢, HBw.out⟩
      go_wp2
      go_ret
      exact HF.out
end Go.Proofs.YtpanoplcamdnkaaGreatDoor
/- The reference's Node: another row of files; walk of AddFile. No conditions but bounds. -/
namespace Go.Proofs.YtpanoplcamdnkaaGreatDoor
open Go.RowKit Go.Lib

section
variable {n : Nat} {vf vb : Value} {E : REL} {G : List RBE} {w w' : World}
theorem ORN.blk_lt (h : ORN n vf vb E G w) {k : Nat} (hk : k ∈ blkN n vb G) : k < w.heap.size := by
  rcases blk_iff.1 hk with rfl | e | ⟨q, hq, rfl | e⟩
  · exact h.nlt
  · exact own_ltN h.bins e
  · exact (h.bin q hq).lt
  · exact own_ltN (h.bin q hq).own e
theorem ORN.vb_ne (h : ORN n vf vb E G w) {k : Nat} (e : vb.ownBlock = some k) : k ≠ n := by
  have hd := h.nd
  unfold blkN at hd
  rw [List.nodup_cons] at hd
  intro hk
  subst hk
  exact hd.1 (List.mem_append_left _ (by rw [e]; exact List.mem_cons_self))
theorem ORN.rb_ne (h : ORN n vf vb E G w) {q : RBE} (hq : q ∈ G) : q.rb ≠ n ∧ ∀ k, q.v.ownBlock = some k → k ≠ n := by
  have hd := h.nd
  unfold blkN at hd
  rw [List.nodup_cons] at hd
  exact ⟨fun e => hd.1 (by rw [← e]; exact List.mem_append_right _ (mem_blkG hq).1), fun k e e2 => hd.1 (by rw [← e2]; exact List.mem_append_right _ ((mem_blkG hq).2 k e))⟩
theorem own_other {base m size : Nat} {e : TypeId} {v : Value} {xs : List Value} {b : Nat} (h : w.ownsRow base e size v m xs) (h2 : ∀ k, v.ownBlock = some k → k ≠ b) (hw : ∀ k, k ≠ b → w'.heap[k]? = w.heap[k]?) : w'.ownsRow base e size v m xs := by
  refine ⟨h.1, ?_⟩
  rcases h.2 with h3 | ⟨g, cap, cur, hv, hg, hh, h4⟩
  · exact .inl h3
  · exact .inr ⟨g, cap, cur, hv, hg, (hw g (h2 g (by rw [hv]; rfl))).trans hh, h4⟩
theorem RdC.other {B size m : Nat} {v : Value} {xs : List Value} {b : Nat} (h : RdC w B size v m xs) (h2 : ∀ k, v.ownBlock = some k → 0 < m → k ≠ b) (hw : ∀ k, k ≠ b → w'.heap[k]? = w.heap[k]?) : RdC w' B size v m xs := by
  obtain ⟨A, c, hv, hl, hc, hx⟩ := h
  refine ⟨A, c, hv, hl, hc, fun h0 => ?_⟩
  obtain ⟨g, o, hA, hg, hcell⟩ := hx h0
  exact ⟨g, o, hA, hg, fun k u hu => (World.cell?_of_block (a := ⟨g, o + k, none⟩) (hw g (h2 g (by rw [hv, hA]; rfl) h0))).trans (hcell k u hu)⟩
/-- another row of files -/
theorem ORN.setF {W w7 : World} {v7 : Value} {E' : REL} {base : Nat} (h : ORN n vf vb E G W) (hb : Below W.heap.size W w7) (ho : w7.ownsRow base 65 4 v7 E'.length (rcK.row E')) (hbase : W.heap.size ≤ base)
    (hE : ∀ x ∈ E', RdI W W.heap.size x.2 x.1.ids ∧ ∀ k, x.2.ownBlock = some k → x.1.ids ≠ [] → k ∉ blkN n vb G) : ORN n v7 vb E' G (w7.setCell ⟨n, 0, none⟩ v7) := by
  have h7 := h.below hb
  have hs : (w7.setCell ⟨n, 0, none⟩ v7).heap.size = w7.heap.size := by simp [World.setCell]
  have hw : ∀ k, k ≠ n → (w7.setCell ⟨n, 0, none⟩ v7).heap[k]? = w7.heap[k]? := fun k hk => set_keepB hk
  have hge : ∀ k, v7.ownBlock = some k → W.heap.size ≤ k := fun k e => Nat.le_trans hbase (own_ge ho e)
  refine ⟨?_, ?_, fun x hx => ?_, own_other h7.bins (fun k e => h.vb_ne e) hw, fun q hq => ?_, h.nd, fun k hk => ?_⟩
  · have := h7.row
    simp [World.setCell, Array.getElem?_modify, this]
  · rw [hs]
    exact RdC.other (RdC.ownP ho) (fun k e _ hk => by have := hge k e; have := h.nlt; omega) hw
  · rw [hs]
    obtain ⟨h1, h2⟩ := hE x hx
    exact RdC.other (RdI.more (h1.keep hb (Nat.le_refl _)) hb.size) (fun k e h0 hk => h2 k e (List.ne_nil_of_length_pos h0) (hk ▸ blk_n)) hw
  · have hb7 := h7.bin q hq
    exact hb7.other (h.rb_ne hq).1 (fun e => (h.rb_ne hq).2 n e rfl) hw
  · rcases hk with ⟨e, _⟩ | ⟨x, hx, e, ne⟩
    · intro hm
      have := h.blk_lt hm
      have := hge k e
      omega
    · exact (hE x hx).2 k e ne
theorem rcRow_take (E : REL) (k : Nat) : rcK.row (E.take k) = (rcK.row E).take (k * 4) := by
  rcases Nat.lt_or_ge k E.length with h | h
  · have e : rcK.row E = rcK.row (E.take k) ++ rcK.row (E.drop k) := by rw [← rcK.row_append, List.take_append_drop]
    have h1 : (rcK.row (E.take k)).length = (E.take k).length * 4 := rcK.row_length _
    rw [List.length_take, Nat.min_eq_left (Nat.le_of_lt h)] at h1
    rw [e, ← h1, List.take_left]
  · have hl : (rcK.row E).length = E.length * 4 := rcK.row_length E
    rw [List.take_of_length_le h, List.take_of_length_le (by omega)]
theorem rcRow_drop (E : REL) (k : Nat) (h : k ≤ E.length) : rcK.row (E.drop k) = (rcK.row E).drop (k * 4) := by
  have e : rcK.row E = rcK.row (E.take k) ++ rcK.row (E.drop k) := by rw [← rcK.row_append, List.take_append_drop]
  have h1 : (rcK.row (E.take k)).length = (E.take k).length * 4 := rcK.row_length _
  rw [List.length_take, Nat.min_eq_left h] at h1
  rw [e, ← h1, List.drop_left]
theorem rcRow_one {B : Nat} (h : ∀ x ∈ E, RdI w B x.2 x.1.ids) : ∀ u ∈ rcK.row E, u.oneCell' = true := by
  intro u hu
  obtain ⟨x, hx, hu⟩ := List.mem_flatMap.1 hu
  exact rcK.one (a := x.1) (h x hx) u hu
end
/-- a file comes to its place -/
def insE (k : Nat) (x : Rcp × Value) (E : REL) : REL := E.take k ++ x :: E.drop k
def AddPost (n k : Nat) (vb : Value) (x : Rcp × Value) (E : REL) (G : List RBE) (w : World) (e : Ending) (w' : World) : Prop :=
  e = .returned (.tuple #[]) ∧ ∃ v7, ORN n v7 vb (insE k x E) G w' ∧ (∀ b, v7.ownBlock = some b → w.heap.size ≤ b) ∧ FrS (fun b => b = n) w w'
theorem add_post {n k base : Nat} {vf vb v7 : Value} {x : Rcp × Value} {E : REL} {G : List RBE} {w W w7 : World} (h : ORN n vf vb E G W) (hbw : Below w.heap.size w W) (hb : Below W.heap.size W w7) (hk : k ≤ E.length) (ho : w7.ownsRow base 65 4 v7 (0 + k + 1 + (E.length - k)) (([] ++ (rcK.row E).take (k * 4)) ++ rcK.cells x.1 x.2 ++ (rcK.row E).drop (k * 4))) (hbase : W.heap.size ≤ base)
    (hx : RdI W W.heap.size x.2 x.1.ids ∧ ∀ k, x.2.ownBlock = some k → x.1.ids ≠ [] → k ∉ blkN n vb G) : AddPost n k vb x E G w (.returned (.tuple #[])) (w7.setCell ⟨n, 0, none⟩ v7) := by
  have hl : (insE k x E).length = 0 + k + 1 + (E.length - k) := by unfold insE; rw [List.length_append, List.length_take, List.length_cons, List.length_drop]; omega
  have hr : rcK.row (insE k x E) = ([] ++ (rcK.row E).take (k * 4)) ++ rcK.cells x.1 x.2 ++ (rcK.row E).drop (k * 4) := by
    unfold insE
    rw [rcK.row_append, rcRow_take, show rcK.row (x :: E.drop k) = rcK.cells x.1 x.2 ++ rcK.row (E.drop k) from rfl, rcRow_drop E k hk, List.nil_append, List.append_assoc]
  rw [← hl, ← hr] at ho
  refine ⟨rfl, v7, h.setF hb ho hbase (fun y hy => ?_), fun b e => Nat.le_trans hbw.size (Nat.le_trans hbase (own_ge ho e)), ?_⟩
  · rcases List.mem_append.1 hy with hy | hy
    · have hm := List.mem_of_mem_take hy
      exact ⟨h.ids y hm, fun b e ne => h.ap b (.inr ⟨y, hm, e, ne⟩)⟩
    · rcases List.mem_cons.1 hy with rfl | hy
      · exact hx
      · have hm := List.mem_of_mem_drop hy
        exact ⟨h.ids y hm, fun b e ne => h.ap b (.inr ⟨y, hm, e, ne⟩)⟩
  · have hb2 := hbw.trans (hb.mono hbw.size)
    exact ⟨hb2.os, hb2.tape, hb2.output, by have := hb2.size; simpa [World.setCell] using this, fun j hj hne => (set_keepB hne).trans (hb2.block j hj)⟩
set_option maxRecDepth 100000 in
set_option maxHeartbeats 2000000 in
theorem RNAdd_raw (n : Nat) (vf vb : Value) (E : REL) (G : List RBE) (hl : E.length ≤ 1000) (r : Rcp) (sl : Value) (at_ : Nat) (hat : at_ ≤ E.length) (h1 : ∀ j (hj : j < E.length), j < at_ → bytesBefore E[j].1.name r.name = true) (h2 : ∀ hj : at_ < E.length, bytesBefore E[at_].1.name r.name = false) (w : World) (h : ORN n vf vb E G w) (hsl : RdI w w.heap.size sl r.ids) (hap : ∀ k, sl.ownBlock = some k → r.ids ≠ [] → k ∉ blkN n vb G) :
    Calls Tryz.prog 151 #[.pointer (some ⟨n, 0, none⟩), .agg #[VT r.name, .int .i64 r.len, .int .u32 (r.print : Int), sl]] w (AddPost n at_ vb (r, sl) E G w) := by
  obtain ⟨i0, hi, hz0, hz1, hz2⟩ := info_parts info_rcp
  obtain ⟨SA, sc, hsv, _⟩ := id hsl.form
  subst hsv
  have hb1 : Below w.heap.size w (w.alloc (.cells #[VT r.name, .int .i64 r.len, .int .u32 (r.print : Int), .slice SA r.ids.length sc] 65)) := (Below.refl _ _).alloc (Nat.le_refl _) _
  have hn := h.nlt
  have HN := Lib.hid h
  have HC0 := Lib.hid h.c0
  have HSL := Lib.hid hsl
  have HAP := Lib.hid hap
  have H1 := Lib.hid h1
  have H2 := Lib.hid h2
  obtain ⟨A, c, hvf, hcap, hx⟩ := h.vff
  subst hvf
  have HX := Lib.hid hx
  have HB1 := Lib.hid hb1
  have HX1 := Lib.hid (Box4.mk' w (VT r.name) (.int .i64 r.len) (.int .u32 (r.print : Int)) (.slice SA r.ids.length sc) 65)
  clear hx h hsl hap h1 h2 hb1
  go_enter Tryz.func151, Tryz.ntmps151
  go_wp2
  generalize w.alloc (.cells #[VT r.name, .int .i64 r.len, .int .u32 (r.print : Int), .slice SA r.ids.length sc] 65) = w1 at *
  go_loopg [4] at_ (fun gh v4 wr => ∃ k : Nat, v4 = .int .i64 k ∧ k ≤ at_ ∧ gh = at_ - k ∧ Hid (Below w1.heap.size w1 wr))
  case atStart => exact ⟨0, rfl, Nat.zero_le _, rfl, Lib.hid (Below.refl _ _)⟩
  case round =>
    obtain ⟨k, rfl, hk, hgm, HBr⟩ := hrel
    have HBw := Lib.hid (HB1.out.trans (HBr.out.mono HB1.out.size))
    have nc := (HBw.out.cell (p := ⟨n, 0, none⟩) hn).trans HC0.out
    obtain ⟨r0, r1, r2, r3, _⟩ := HX1.out.below HBr.out HX1.out.lt
    by_cases hkl : k < E.length
    · obtain ⟨g, o, rfl, hg, hcells⟩ := HX.out (by omega)
      obtain ⟨y0, _, _, _⟩ := hcells k hkl
      have x0 := (HBw.out.cell (p := ⟨g, o + k * 4, none⟩) hg).trans y0
      have b1 : (0 : Int) ≤ (k : Int) := by omega
      have b2 : (k : Int) < (E.length : Int) := by omega
      clear hcells y0
      by_cases hka : k < at_
      · have hb := H1.out k hkl hka
        have hlb : Op.bytesLess (bs E[k].1.name).toList (bs r.name).toList = true := by rw [ByteArray.toList_eq, ByteArray.toList_eq, bs_toList, bs_toList, ← before_lessB]; exact hb
        clear hb
        go_wp2
        go_quiet (fail)
        have hbd := below_drewN (Below.refl wr.heap.size wr) nq
        have HBd := Lib.hid (HBr.out.trans (hbd.mono HBr.out.size))
        clear hbd
        go_wp2
        go_roundg (at_ - (k + 1))
        case measure => omega
        case rel => exact ⟨k + 1, by go_num, hka, rfl, HBd⟩
      · obtain rfl : k = at_ := by omega
        have hb := H2.out hkl
        have hlb : Op.bytesLess (bs E[k].1.name).toList (bs r.name).toList = false := by rw [ByteArray.toList_eq, ByteArray.toList_eq, bs_toList, bs_toList, ← before_lessB]; exact hb
        clear hb
        go_wp2
        go_quiet (fail)
        have hbd := below_drewN (Below.refl wr.heap.size wr) nq
        have HBd := Lib.hid (HBr.out.trans (hbd.mono HBr.out.size))
        clear hbd
        clear r0 r1 r2 r3
        have HBW := Lib.hid (HB1.out.trans (HBd.out.mono HB1.out.size))
        have HNW := Lib.hid (HN.out.below HBW.out)
        have HXW : Hid (RdI (wr.drewN nq) (wr.drewN nq).heap.size (.slice SA r.ids.length sc) r.ids ∧ ∀ k, (Value.slice SA r.ids.length sc).ownBlock = some k → r.ids ≠ [] → k ∉ blkN n vb G) := Lib.hid ⟨(HSL.out.keep HBW.out (Nat.le_refl _)).more HBW.out.size, HAP.out⟩
        have HXB := Lib.hid (HX1.out.below HBd.out HX1.out.lt)
        clear x0 nc
        generalize wr.drewN nq = W at *
        clear hlb
        have HRC : Hid (RdC W W.heap.size 4 (.slice (some ⟨g, o, none⟩) E.length c) E.length (rcK.row E)) := Lib.hid HNW.out.files
        have HT1 : Hid (RdC W W.heap.size 4 (.slice (some ⟨g, o, none⟩) k c) k ((rcK.row E).take (k * 4))) := Lib.hid (HRC.out.takeM k (by omega))
        have HT3 : Hid (RdC W W.heap.size 4 (.slice (some ⟨g, o + k * 4, none⟩) (E.length - k) (c - k)) (E.length - k) ((rcK.row E).drop (k * 4))) := Lib.hid (by have h := HRC.out.cutM k (by omega); rw [if_neg (by omega), Option.map_some, add_eqM] at h; exact h)
        have HO1 : Hid (∀ u ∈ (rcK.row E).take (k * 4), u.oneCell' = true) := Lib.hid (fun u hu => rcRow_one HNW.out.ids u (List.mem_of_mem_take hu))
        have HO3 : Hid (∀ u ∈ (((rcK.row E).drop (k * 4)) : List Value), u.oneCell' = true) := Lib.hid (fun u hu => rcRow_one HNW.out.ids u (List.mem_of_mem_drop hu))
        have HON : Hid (∀ u ∈ ([VT r.name, .int .i64 r.len, .int .u32 (r.print : Int), .slice SA r.ids.length sc] : List Value), u.oneCell' = true) := Lib.hid (rcK.one (a := r) HXW.out.1)
        have HP : Hid (∀ (w7 : World) (v7 : Value), w7.ownsRow W.heap.size 65 4 v7 (0 + k + 1 + (E.length - k)) (([] ++ (rcK.row E).take (k * 4)) ++ [VT r.name, .int .i64 r.len, .int .u32 (r.print : Int), .slice SA r.ids.length sc] ++ ((rcK.row E).drop (k * 4))) → Below W.heap.size W w7 → AddPost n k vb (r, .slice SA r.ids.length sc) E G w (.returned (.tuple #[])) (w7.setCell ⟨n, 0, none⟩ v7)) := Lib.hid (fun w7 v7 ho hb => add_post HNW.out HBW.out hb (by omega) (by exact ho) (Nat.le_refl _) HXW.out)
        have q1 : (0 : Int) ≤ (k : Int) := by omega
        have q2 : (k : Int) ≤ (E.length : Int) := by omega
        have q3 : (k : Int) ≤ (c : Int) := by omega
        have hnl : n < W.heap.size := HNW.out.nlt
        have nc0 := HNW.out.c0
        obtain ⟨r0, r1, r2, r3, _⟩ := HXB.out
        go_wp2_with (first | (at_builtin; refine wpList_append_rdM rfl (.tmp 28) (.tmp 34) 61 rfl W.heap.size 65 i0 (.agg #[.string ByteArray.empty, .int .i64 0, .int .u32 0, .slice none 0 0]) 4 56 Tryz.underlying61 hi hz0 hz1 hz2 rfl (by decide) _ 0 [] rfl (World.ownsRow_nil _ _ _ _) W.heap.size _ k ((rcK.row E).take (k * 4)) rfl HT1.out HO1.out (by unfold maxLen; omega) (by omega) (Nat.le_refl _) ?_; intro v5 w5 ho5 hg5; have hS5 : Below W.heap.size W w5 := below_grownP (Below.refl _ _) (Nat.le_refl _) (World.ownsRow_nil W W.heap.size 65 4) hg5; obtain ⟨m0, m1, m2, m3, _⟩ := HXB.out.below hS5 HXB.out.lt; have nc5 := (hS5.cell (p := ⟨n, 0, none⟩) hnl).trans nc0; have HNE := Lib.hid (cells_new4 w5 (VT r.name) (.int .i64 r.len) (.int .u32 (r.print : Int)) (.slice SA r.ids.length sc) 65)) | (at_builtin; refine wpList_append_own _ rfl (.tmp 36) (.tmp 38) 61 rfl W.heap.size 65 i0 (.agg #[.string ByteArray.empty, .int .i64 0, .int .u32 0, .slice none 0 0]) 4 56 Tryz.underlying61 hi hz0 hz1 hz2 rfl (by decide) _ _ _ rfl (ho5.alloc _) ⟨w5.heap.size, 0, none⟩ 1 1 [VT r.name, .int .i64 r.len, .int .u32 (r.print : Int), .slice SA r.ids.length sc] rfl rfl HNE.out HON.out (by unfold maxLen; omega) (by omega) (by have := hS5.size; simp; omega) ?_; intro v6 w6 ho6 hg6 _; have hS6 : Below W.heap.size W w6 := below_append hS5 hS5.size ho5 hg6; have nc6 := (hS6.cell (p := ⟨n, 0, none⟩) hnl).trans nc0) | (at_builtin; refine wpList_append_rdM rfl (.tmp 41) (.tmp 47) 61 rfl W.heap.size 65 i0 (.agg #[.string ByteArray.empty, .int .i64 0, .int .u32 0, .slice none 0 0]) 4 56 Tryz.underlying61 hi hz0 hz1 hz2 rfl (by decide) _ _ _ rfl ho6 W.heap.size _ (E.length - k) ((rcK.row E).drop (k * 4)) rfl (HT3.out.below hS6) HO3.out (by unfold maxLen; omega) (by omega) hS6.size ?_; intro v7 w7 ho7 hg7; have hS7 : Below W.heap.size W w7 := below_grownP hS6 hS6.size ho6 hg7; obtain ⟨A7, c7, hv7⟩ := own_formI ho7; subst hv7; have hrow7 := (hS7.block n hnl).trans HNW.out.row; have d0 := cell_of_row w7 n 0 _ _ _ hrow7; have e0 := frozen_of_row w7 n 0 _ _ hrow7) | fail)
        go_end0
        exact HP.out _ _ (by simpa only [Nat.zero_add, Nat.add_zero] using ho7) hS7
    · obtain rfl : k = at_ := by omega
      obtain rfl : k = E.length := by omega
      have x0 := trivial
      go_wp2
      go_quiet (fail)
      have hbd := below_drewN (Below.refl wr.heap.size wr) nq
      have HBd := Lib.hid (HBr.out.trans (hbd.mono HBr.out.size))
      clear hbd
      clear r0 r1 r2 r3
      have HBW := Lib.hid (HB1.out.trans (HBd.out.mono HB1.out.size))
      have HNW := Lib.hid (HN.out.below HBW.out)
      have HXW : Hid (RdI (wr.drewN nq) (wr.drewN nq).heap.size (.slice SA r.ids.length sc) r.ids ∧ ∀ k, (Value.slice SA r.ids.length sc).ownBlock = some k → r.ids ≠ [] → k ∉ blkN n vb G) := Lib.hid ⟨(HSL.out.keep HBW.out (Nat.le_refl _)).more HBW.out.size, HAP.out⟩
      have HXB := Lib.hid (HX1.out.below HBd.out HX1.out.lt)
      clear x0 nc
      generalize wr.drewN nq = W at *
      by_cases hcl : c = E.length
      · subst hcl
        have HRC : Hid (RdC W W.heap.size 4 (.slice A E.length E.length) E.length (rcK.row E)) := Lib.hid HNW.out.files
        have HT1 : Hid (RdC W W.heap.size 4 (.slice A E.length E.length) E.length ((rcK.row E).take (E.length * 4))) := Lib.hid (HRC.out.takeM E.length (by omega))
        have HT3 := Lib.hid trivial
        have HO1 : Hid (∀ u ∈ (rcK.row E).take (E.length * 4), u.oneCell' = true) := Lib.hid (fun u hu => rcRow_one HNW.out.ids u (List.mem_of_mem_take hu))
        have HO3 : Hid (∀ u ∈ ([] : List Value), u.oneCell' = true) := Lib.hid (fun u hu => absurd hu List.not_mem_nil)
        have HON : Hid (∀ u ∈ ([VT r.name, .int .i64 r.len, .int .u32 (r.print : Int), .slice SA r.ids.length sc] : List Value), u.oneCell' = true) := Lib.hid (rcK.one (a := r) HXW.out.1)
        have HP : Hid (∀ (w7 : World) (v7 : Value), w7.ownsRow W.heap.size 65 4 v7 (0 + E.length + 1 + 0) (([] ++ (rcK.row E).take (E.length * 4)) ++ [VT r.name, .int .i64 r.len, .int .u32 (r.print : Int), .slice SA r.ids.length sc] ++ []) → Below W.heap.size W w7 → AddPost n E.length vb (r, .slice SA r.ids.length sc) E G w (.returned (.tuple #[])) (w7.setCell ⟨n, 0, none⟩ v7)) := Lib.hid (fun w7 v7 ho hb => add_post HNW.out HBW.out hb (by omega) (by rw [List.drop_of_length_le (show (rcK.row E).length ≤ E.length * 4 from Nat.le_of_eq (rcK.row_length E)), Nat.sub_self]; exact ho) (Nat.le_refl _) HXW.out)
        have q1 : (0 : Int) ≤ (E.length : Int) := by omega
        have q2 : (E.length : Int) ≤ (E.length : Int) := by omega
        have q3 : (E.length : Int) ≤ (E.length : Int) := by omega
        have hnl : n < W.heap.size := HNW.out.nlt
        have nc0 := HNW.out.c0
        obtain ⟨r0, r1, r2, r3, _⟩ := HXB.out
        go_wp2_with (first | (at_builtin; refine wpList_append_rdM rfl (.tmp 28) (.tmp 34) 61 rfl W.heap.size 65 i0 (.agg #[.string ByteArray.empty, .int .i64 0, .int .u32 0, .slice none 0 0]) 4 56 Tryz.underlying61 hi hz0 hz1 hz2 rfl (by decide) _ 0 [] rfl (World.ownsRow_nil _ _ _ _) W.heap.size _ E.length ((rcK.row E).take (E.length * 4)) rfl HT1.out HO1.out (by unfold maxLen; omega) (by omega) (Nat.le_refl _) ?_; intro v5 w5 ho5 hg5; have hS5 : Below W.heap.size W w5 := below_grownP (Below.refl _ _) (Nat.le_refl _) (World.ownsRow_nil W W.heap.size 65 4) hg5; obtain ⟨m0, m1, m2, m3, _⟩ := HXB.out.below hS5 HXB.out.lt; have nc5 := (hS5.cell (p := ⟨n, 0, none⟩) hnl).trans nc0; have HNE := Lib.hid (cells_new4 w5 (VT r.name) (.int .i64 r.len) (.int .u32 (r.print : Int)) (.slice SA r.ids.length sc) 65)) | (at_builtin; refine wpList_append_own _ rfl (.tmp 36) (.tmp 38) 61 rfl W.heap.size 65 i0 (.agg #[.string ByteArray.empty, .int .i64 0, .int .u32 0, .slice none 0 0]) 4 56 Tryz.underlying61 hi hz0 hz1 hz2 rfl (by decide) _ _ _ rfl (ho5.alloc _) ⟨w5.heap.size, 0, none⟩ 1 1 [VT r.name, .int .i64 r.len, .int .u32 (r.print : Int), .slice SA r.ids.length sc] rfl rfl HNE.out HON.out (by unfold maxLen; omega) (by omega) (by have := hS5.size; simp; omega) ?_; intro v6 w6 ho6 hg6 _; have hS6 : Below W.heap.size W w6 := below_append hS5 hS5.size ho5 hg6; have nc6 := (hS6.cell (p := ⟨n, 0, none⟩) hnl).trans nc0) | (at_builtin; refine wpList_append_rdM rfl (.tmp 41) (.tmp 47) 61 rfl W.heap.size 65 i0 (.agg #[.string ByteArray.empty, .int .i64 0, .int .u32 0, .slice none 0 0]) 4 56 Tryz.underlying61 hi hz0 hz1 hz2 rfl (by decide) _ _ _ rfl ho6 W.heap.size _ 0 [] rfl (RdC.nilP _ _ _ _ _) HO3.out (by unfold maxLen; omega) (by omega) hS6.size ?_; intro v7 w7 ho7 hg7; have hS7 : Below W.heap.size W w7 := below_grownP hS6 hS6.size ho6 hg7; obtain ⟨A7, c7, hv7⟩ := own_formI ho7; subst hv7; have hrow7 := (hS7.block n hnl).trans HNW.out.row; have d0 := cell_of_row w7 n 0 _ _ _ hrow7; have e0 := frozen_of_row w7 n 0 _ _ hrow7) | fail)
        go_end0
        exact HP.out _ _ (by simpa only [Nat.zero_add, Nat.add_zero] using ho7) hS7
      · have hcl2 : ¬ E.length = c := fun h => hcl h.symm
        have HRC : Hid (RdC W W.heap.size 4 (.slice A E.length c) E.length (rcK.row E)) := Lib.hid HNW.out.files
        have HT1 : Hid (RdC W W.heap.size 4 (.slice A E.length c) E.length ((rcK.row E).take (E.length * 4))) := Lib.hid (HRC.out.takeM E.length (by omega))
        have HT3 := Lib.hid trivial
        have HO1 : Hid (∀ u ∈ (rcK.row E).take (E.length * 4), u.oneCell' = true) := Lib.hid (fun u hu => rcRow_one HNW.out.ids u (List.mem_of_mem_take hu))
        have HO3 : Hid (∀ u ∈ ([] : List Value), u.oneCell' = true) := Lib.hid (fun u hu => absurd hu List.not_mem_nil)
        have HON : Hid (∀ u ∈ ([VT r.name, .int .i64 r.len, .int .u32 (r.print : Int), .slice SA r.ids.length sc] : List Value), u.oneCell' = true) := Lib.hid (rcK.one (a := r) HXW.out.1)
        have HP : Hid (∀ (w7 : World) (v7 : Value), w7.ownsRow W.heap.size 65 4 v7 (0 + E.length + 1 + 0) (([] ++ (rcK.row E).take (E.length * 4)) ++ [VT r.name, .int .i64 r.len, .int .u32 (r.print : Int), .slice SA r.ids.length sc] ++ []) → Below W.heap.size W w7 → AddPost n E.length vb (r, .slice SA r.ids.length sc) E G w (.returned (.tuple #[])) (w7.setCell ⟨n, 0, none⟩ v7)) := Lib.hid (fun w7 v7 ho hb => add_post HNW.out HBW.out hb (by omega) (by rw [List.drop_of_length_le (show (rcK.row E).length ≤ E.length * 4 from Nat.le_of_eq (rcK.row_length E)), Nat.sub_self]; exact ho) (Nat.le_refl _) HXW.out)
        have q1 : (0 : Int) ≤ (E.length : Int) := by omega
        have q2 : (E.length : Int) ≤ (E.length : Int) := by omega
        have q3 : (E.length : Int) ≤ (c : Int) := by omega
        have hnl : n < W.heap.size := HNW.out.nlt
        have nc0 := HNW.out.c0
        obtain ⟨r0, r1, r2, r3, _⟩ := HXB.out
        go_wp2_with (first | (at_builtin; refine wpList_append_rdM rfl (.tmp 28) (.tmp 34) 61 rfl W.heap.size 65 i0 (.agg #[.string ByteArray.empty, .int .i64 0, .int .u32 0, .slice none 0 0]) 4 56 Tryz.underlying61 hi hz0 hz1 hz2 rfl (by decide) _ 0 [] rfl (World.ownsRow_nil _ _ _ _) W.heap.size _ E.length ((rcK.row E).take (E.length * 4)) rfl HT1.out HO1.out (by unfold maxLen; omega) (by omega) (Nat.le_refl _) ?_; intro v5 w5 ho5 hg5; have hS5 : Below W.heap.size W w5 := below_grownP (Below.refl _ _) (Nat.le_refl _) (World.ownsRow_nil W W.heap.size 65 4) hg5; obtain ⟨m0, m1, m2, m3, _⟩ := HXB.out.below hS5 HXB.out.lt; have nc5 := (hS5.cell (p := ⟨n, 0, none⟩) hnl).trans nc0; have HNE := Lib.hid (cells_new4 w5 (VT r.name) (.int .i64 r.len) (.int .u32 (r.print : Int)) (.slice SA r.ids.length sc) 65)) | (at_builtin; refine wpList_append_own _ rfl (.tmp 36) (.tmp 38) 61 rfl W.heap.size 65 i0 (.agg #[.string ByteArray.empty, .int .i64 0, .int .u32 0, .slice none 0 0]) 4 56 Tryz.underlying61 hi hz0 hz1 hz2 rfl (by decide) _ _ _ rfl (ho5.alloc _) ⟨w5.heap.size, 0, none⟩ 1 1 [VT r.name, .int .i64 r.len, .int .u32 (r.print : Int), .slice SA r.ids.length sc] rfl rfl HNE.out HON.out (by unfold maxLen; omega) (by omega) (by have := hS5.size; simp; omega) ?_; intro v6 w6 ho6 hg6 _; have hS6 : Below W.heap.size W w6 := below_append hS5 hS5.size ho5 hg6; have nc6 := (hS6.cell (p := ⟨n, 0, none⟩) hnl).trans nc0) | (at_builtin; refine wpList_append_rdM rfl (.tmp 41) (.tmp 47) 61 rfl W.heap.size 65 i0 (.agg #[.string ByteArray.empty, .int .i64 0, .int .u32 0, .slice none 0 0]) 4 56 Tryz.underlying61 hi hz0 hz1 hz2 rfl (by decide) _ _ _ rfl ho6 W.heap.size _ 0 [] rfl (RdC.nilP _ _ _ _ _) HO3.out (by unfold maxLen; omega) (by omega) hS6.size ?_; intro v7 w7 ho7 hg7; have hS7 : Below W.heap.size W w7 := below_grownP hS6 hS6.size ho6 hg7; obtain ⟨A7, c7, hv7⟩ := own_formI ho7; subst hv7; have hrow7 := (hS7.block n hnl).trans HNW.out.row; have d0 := cell_of_row w7 n 0 _ _ _ hrow7; have e0 := frozen_of_row w7 n 0 _ _ hrow7) | fail)
        go_end0
        exact HP.out _ _ (by simpa only [Nat.zero_add, Nat.add_zero] using ho7) hS7
end Go.Proofs.YtpanoplcamdnkaaGreatDoor
/- The reference's Node: a bin comes to its place; walk of Bin.Copy. No conditions but bounds. -/
namespace Go.Proofs.YtpanoplcamdnkaaGreatDoor
open Go.RowKit Go.Lib Go.Maps

/-! ### sorted lists of pairs -/
section
variable {K V : Type} [DecidableEq K] {lit : K → Lit} {lt : K → K → Bool} {ok okw : K → Prop}
theorem alPut_found (EM : KeyEmb lit lt ok okw) {k : K} {v : V} : ∀ {L : List (K × V)} (_ : AlSrt lt L) {i : Nat} (hi : i < L.length) (_ : L[i].1 = k), alPut lt k v L = L.set i (k, v)
  | [], _, i, hi, _ => absurd hi (Nat.not_lt_zero _)
  | y :: r, hs, 0, hi, he => by
    unfold alPut
    rw [if_pos (show y.1 = k from he)]; rfl
  | y :: r, hs, i + 1, hi, he => by
    obtain ⟨h1, h2⟩ := alSrt_cons.1 hs
    have he' : (r[i]'(by simpa using hi)).1 = k := he
    have hl : lt y.1 k = true := by have := h1 (r[i]'(by simpa using hi)) (List.getElem_mem _); rw [he'] at this; exact this
    have hn : ¬ lt k y.1 = true := fun e => by have := EM.trans hl e; rw [EM.irr] at this; cases this
    unfold alPut
    rw [if_neg (EM.ne hl), if_neg hn, alPut_found EM h2 (by simpa using hi) he']; rfl
theorem alPut_ins (EM : KeyEmb lit lt ok okw) {k : K} {v : V} : ∀ {L : List (K × V)} (i : Nat) (_ : i ≤ L.length) (_ : ∀ j (hj : j < L.length), j < i → lt L[j].1 k = true) (_ : ∀ hi : i < L.length, lt L[i].1 k = false) (_ : ∀ j (hj : j < L.length), L[j].1 ≠ k), alPut lt k v L = L.take i ++ (k, v) :: L.drop i
  | [], i, _, _, _, _ => by simp [alPut]
  | y :: r, 0, _, _, h2, hno => by
    have hne : y.1 ≠ k := hno 0 (by simp)
    have hl : lt y.1 k = false := h2 (by simp)
    have h3 : lt k y.1 = true := by
      rcases EM.total hne with h | h
      · rw [h] at hl; cases hl
      · exact h
    unfold alPut
    rw [if_neg hne, if_pos h3]; rfl
  | y :: r, i + 1, hi, h1, h2, hno => by
    have hl : lt y.1 k = true := h1 0 (by simp) (by omega)
    have hn : ¬ lt k y.1 = true := fun e => by have := EM.trans hl e; rw [EM.irr] at this; cases this
    unfold alPut
    rw [if_neg (EM.ne hl), if_neg hn, alPut_ins EM i (by simpa using hi) (fun j hj hji => h1 (j + 1) (by simpa using hj) (by omega)) (fun hi' => h2 (by simpa using hi')) (fun j hj => hno (j + 1) (by simpa using hj))]
    rfl
end
def prG (q : RBE) : Idn × HldL := (q.x, q.L)
/-! ### blocks -/
theorem sub_flat {α β : Type} (f : α → List β) {a b : List α} (h : a.Sublist b) : (a.flatMap f).Sublist (b.flatMap f) := by
  induction h with
  | slnil => exact List.Sublist.refl _
  | cons x _ ih => rw [List.flatMap_cons]; exact ih.trans (List.sublist_append_right _ _)
  | cons_cons x _ ih => rw [List.flatMap_cons, List.flatMap_cons]; exact (List.Sublist.refl _).append ih
section
variable {n : Nat} {vf vb vb' : Value} {E : REL} {G G1 G2 : List RBE} {q : RBE} {w w' W : World}
theorem nd_put (hd : (blkN n vb G).Nodup) (hs : (G1 ++ G2).Sublist G) (hv : vb'.ownBlock = vb.ownBlock ∨ ∀ k, vb'.ownBlock = some k → k ∉ blkN n vb G ∧ k ≠ q.rb ∧ q.v.ownBlock ≠ some k)
    (h1 : q.rb ∉ blkN n vb G) (h2 : ∀ k, q.v.ownBlock = some k → k ∉ blkN n vb G ∧ k ≠ q.rb) : (blkN n vb' (G1 ++ q :: G2)).Nodup := by
  have hp : (blkG (G1 ++ q :: G2)).Perm ((q.rb :: q.v.ownBlock.toList) ++ blkG (G1 ++ G2)) := List.Perm.flatMap_right (f := fun q : RBE => q.rb :: q.v.ownBlock.toList) List.perm_middle
  have hX : (blkG (G1 ++ G2)).Sublist (blkG G) := sub_flat _ hs
  unfold blkN
  rw [(List.Perm.cons n ((List.Perm.refl _).append hp)).nodup_iff]
  generalize blkG (G1 ++ G2) = X at *
  have hXm : ∀ k, k ∈ X → k ∈ blkN n vb G := fun k hk => blk_G (hX.mem hk)
  have hd0 := hd
  unfold blkN at hd
  rw [List.nodup_cons, List.nodup_append] at hd
  obtain ⟨hn, _, hGn, hvG⟩ := hd
  rw [List.nodup_cons, List.nodup_append, List.cons_append, List.nodup_cons, List.nodup_append]
  have hv2 : ∀ k, vb'.ownBlock = some k → k ≠ n ∧ k ∉ X ∧ k ≠ q.rb ∧ q.v.ownBlock ≠ some k := fun k e => by
    rcases hv with h | h
    · rw [h] at e
      have hkm : k ∈ blkN n vb G := blk_vb e
      exact ⟨fun e2 => hn (List.mem_append_left _ (Option.mem_toList.2 (e2 ▸ e))), fun hx => hvG k (Option.mem_toList.2 e) k (hX.mem hx) rfl, fun e2 => h1 (e2 ▸ hkm), fun e2 => (h2 k e2).1 hkm⟩
    · obtain ⟨a, b, c⟩ := h k e
      exact ⟨fun e2 => a (e2 ▸ blk_n), fun hx => a (hXm k hx), b, c⟩
  refine ⟨fun hm => ?_, ?_, ⟨fun hm => ?_, ?_, hGn.sublist hX, fun a ha b hb e => ?_⟩, fun a ha b hb e => ?_⟩
  · rcases List.mem_append.1 hm with hm | hm
    · exact (hv2 n (Option.mem_toList.1 hm)).1 rfl
    · rcases List.mem_cons.1 hm with e | hm
      · exact h1 (e ▸ blk_n)
      · rcases List.mem_append.1 hm with hm | hm
        · exact (h2 n (Option.mem_toList.1 hm)).1 blk_n
        · exact hn (List.mem_append_right _ (hX.mem hm))
  · cases vb'.ownBlock <;> simp
  · rcases List.mem_append.1 hm with hm | hm
    · exact (h2 _ (Option.mem_toList.1 hm)).2 rfl
    · exact h1 (hXm _ hm)
  · cases q.v.ownBlock <;> simp
  · subst e
    exact (h2 a (Option.mem_toList.1 ha)).1 (hXm a hb)
  · subst e
    obtain ⟨_, a2, a3, a4⟩ := hv2 a (Option.mem_toList.1 ha)
    rcases List.mem_cons.1 hb with e | hb
    · exact a3 e
    · rcases List.mem_append.1 hb with hb | hb
      · exact a4 (Option.mem_toList.1 hb)
      · exact a2 hb
theorem RBin.keepK {rb : Nat} {v : Value} {L : HldL} (hb : RBin rb 0 v L w) (h1 : w'.heap[rb]? = w.heap[rb]?) (h2 : ∀ g, v.ownBlock = some g → w'.heap[g]? = w.heap[g]?) : RBin rb 0 v L w' := by
  refine ⟨h1.trans hb.row, ?_, hb.ne⟩
  refine ⟨hb.own.1, ?_⟩
  rcases hb.own.2 with h3 | ⟨g, cap, cur, hv, hgb, hh, h3⟩
  · exact .inl h3
  · exact .inr ⟨g, cap, cur, hv, hgb, (h2 g (by rw [hv]; rfl)).trans hh, h3⟩
/-- what the blocks of bins are apart from -/
theorem ORN.bin_ap (h : ORN n vf vb E G w) {p : RBE} (hp : p ∈ G) : (p.rb < w.heap.size ∧ p.rb ≠ n ∧ vb.ownBlock ≠ some p.rb) ∧ ∀ k, p.v.ownBlock = some k → k < w.heap.size ∧ k ≠ n ∧ vb.ownBlock ≠ some k := by
  have hd := h.nd
  unfold blkN at hd
  rw [List.nodup_cons, List.nodup_append] at hd
  obtain ⟨_, _, _, hvG⟩ := hd
  obtain ⟨a, b⟩ := h.rb_ne hp
  exact ⟨⟨(h.bin p hp).lt, a, fun e => hvG _ (Option.mem_toList.2 e) _ (mem_blkG hp).1 rfl⟩, fun k e => ⟨own_ltN (h.bin p hp).own e, b k e, fun e2 => hvG _ (Option.mem_toList.2 e2) _ ((mem_blkG hp).2 k e) rfl⟩⟩
/-- another row of bins, with one more or another one -/
theorem ORN.setG (h : ORN n vf vb E G W) (hz : W.heap.size ≤ w'.heap.size) (hw : ∀ k, k < W.heap.size → k ≠ n → vb.ownBlock ≠ some k → w'.heap[k]? = W.heap[k]?) (hrow : w'.heap[n]? = some (.cells #[vf, vb'] 96 (0, 0)))
    (hown : w'.ownsRow 0 172 3 vb' (G1 ++ q :: G2).length (rbRow (G1 ++ q :: G2))) (hs : (G1 ++ G2).Sublist G) (hq : RBin q.rb 0 q.v q.L W) (hq1 : q.rb ∉ blkN n vb G) (hq2 : ∀ k, q.v.ownBlock = some k → k ∉ blkN n vb G)
    (hq3 : ∀ k, rR vf E k → k ≠ q.rb ∧ q.v.ownBlock ≠ some k) (hv : vb'.ownBlock = vb.ownBlock ∨ ∀ k, vb'.ownBlock = some k → W.heap.size ≤ k) : ORN n vf vb' E (G1 ++ q :: G2) w' := by
  have hrk : ∀ k, rR vf E k → k < W.heap.size → w'.heap[k]? = W.heap[k]? := fun k hk hl => hw k hl (fun e => h.ap k hk (e ▸ blk_n)) (fun e => h.ap k hk (blk_vb e))
  have hlt : ∀ k, k ∈ blkN n vb G → k < W.heap.size := fun k hk => h.blk_lt hk
  have hqb : ∀ k, q.v.ownBlock = some k → k < W.heap.size := fun k e => own_ltN hq.own e
  refine ⟨hrow, h.files.keepK hz fun k e h0 hl => hrk k (.inl ⟨e, List.ne_nil_of_length_pos h0⟩) hl, fun x hx => RdC.keepK (h.ids x hx) hz fun k e h0 hl => hrk k (.inr ⟨x, hx, e, List.ne_nil_of_length_pos h0⟩) hl, hown, fun p hp => ?_, ?_, fun k hk hm => ?_⟩
  · have hc : p = q ∨ p ∈ G := by
      rcases List.mem_append.1 hp with hp | hp
      · exact .inr (hs.mem (List.mem_append_left _ hp))
      · rcases List.mem_cons.1 hp with e | hp
        · exact .inl e
        · exact .inr (hs.mem (List.mem_append_right _ hp))
    rcases hc with rfl | hp
    · exact hq.keepK (hw _ hq.lt (fun e => hq1 (e ▸ blk_n)) (fun e => hq1 (blk_vb e))) fun g e => hw g (hqb g e) (fun e2 => hq2 g e (e2 ▸ blk_n)) (fun e2 => hq2 g e (blk_vb e2))
    · obtain ⟨⟨a1, a2, a3⟩, b⟩ := h.bin_ap hp
      exact (h.bin p hp).keepK (hw _ a1 a2 a3) fun g e => hw g (b g e).1 (b g e).2.1 (b g e).2.2
  · refine nd_put h.nd hs ?_ hq1 fun k e => ⟨hq2 k e, hq.ne k e⟩
    rcases hv with h1 | h1
    · exact .inl h1
    · exact .inr fun k e => ⟨fun hm => by have := hlt k hm; have := h1 k e; omega, fun e2 => by have := hq.lt; have := h1 k e; omega, fun e2 => by have := hqb k e2; have := h1 k e; omega⟩
  · have hkn := h.ap k hk
    rcases blk_iff.1 hm with e | e | ⟨p, hp, e⟩
    · exact hkn (e ▸ blk_n)
    · rcases hv with h1 | h1
      · exact hkn (blk_vb (h1 ▸ e))
      · have := h1 k e; have := h.rlt k hk; omega
    · have hc : p = q ∨ p ∈ G := by
        rcases List.mem_append.1 hp with hp | hp
        · exact .inr (hs.mem (List.mem_append_left _ hp))
        · rcases List.mem_cons.1 hp with e | hp
          · exact .inl e
          · exact .inr (hs.mem (List.mem_append_right _ hp))
      rcases hc with rfl | hp
      · rcases e with e | e
        · exact (hq3 k hk).1 e.symm
        · exact (hq3 k hk).2 e
      · exact hkn (blk_iff.2 (.inr (.inr ⟨p, hp, e⟩)))
theorem blk_ins {k : Nat} (hs : (G1 ++ G2).Sublist G) (hv : ∀ k, vb'.ownBlock = some k → vb.ownBlock = some k ∨ w.heap.size ≤ k) (hk : k ∈ blkN n vb' (G1 ++ q :: G2)) : k ∈ blkN n vb G ∨ k = q.rb ∨ q.v.ownBlock = some k ∨ w.heap.size ≤ k := by
  rcases blk_iff.1 hk with e | e | ⟨p, hp, e⟩
  · exact .inl (e ▸ blk_n)
  · rcases hv k e with h | h
    · exact .inl (blk_vb h)
    · exact .inr (.inr (.inr h))
  · rcases List.mem_append.1 hp with hp | hp
    · exact .inl (blk_iff.2 (.inr (.inr ⟨p, hs.mem (List.mem_append_left _ hp), e⟩)))
    · rcases List.mem_cons.1 hp with rfl | hp
      · rcases e with e | e
        · exact .inr (.inl e.symm)
        · exact .inr (.inr (.inl e))
      · exact .inl (blk_iff.2 (.inr (.inr ⟨p, hs.mem (List.mem_append_right _ hp), e⟩)))
end
theorem rbRow_set (G : List RBE) (k : Nat) (hk : k < G.length) (q : RBE) (hx : q.x = G[k].x) : rbRow (G.set k q) = (rbRow G).set (k * 3 + 2) (.pointer (some ⟨q.rb, 0, none⟩)) := by
  induction G generalizing k with
  | nil => exact absurd hk (Nat.not_lt_zero _)
  | cons a r ih =>
    cases k with
    | zero =>
      have hx' : q.x = a.x := hx
      show rbC q ++ rbRow r = (rbC a ++ rbRow r).set 2 _
      unfold rbC
      rw [hx']; rfl
    | succ k =>
      have h1 := ih k (by simpa using hk) (by simpa using hx)
      show rbC a ++ rbRow (r.set k q) = (rbC a ++ rbRow r).set ((k + 1) * 3 + 2) _
      rw [h1, show (k + 1) * 3 + 2 = (k * 3 + 2) + 3 by omega]; rfl
theorem rbRow_takeG (G : List RBE) (k : Nat) : rbRow (G.take k) = (rbRow G).take (k * 3) := by
  rcases Nat.lt_or_ge k G.length with h | h
  · have e : rbRow G = rbRow (G.take k) ++ rbRow (G.drop k) := by rw [← rbRow_append, List.take_append_drop]
    have h1 : (rbRow (G.take k)).length = (G.take k).length * 3 := rbRow_length _
    rw [List.length_take, Nat.min_eq_left (Nat.le_of_lt h)] at h1
    rw [e, ← h1, List.take_left]
  · have hl : (rbRow G).length = G.length * 3 := rbRow_length G
    rw [List.take_of_length_le h, List.take_of_length_le (by omega)]
theorem rbRow_dropG (G : List RBE) (k : Nat) (h : k ≤ G.length) : rbRow (G.drop k) = (rbRow G).drop (k * 3) := by
  have e : rbRow G = rbRow (G.take k) ++ rbRow (G.drop k) := by rw [← rbRow_append, List.take_append_drop]
  have h1 : (rbRow (G.take k)).length = (G.take k).length * 3 := rbRow_length _
  rw [List.length_take, Nat.min_eq_left h] at h1
  rw [e, ← h1, List.drop_left]
/-! ### Bin.Copy -/
def BCopyPost (L : HldL) (w : World) (e : Ending) (w' : World) : Prop := ∃ b v', e = .returned (.pointer (some ⟨b, 0, none⟩)) ∧ RBin b w.heap.size v' L w' ∧ w.heap.size ≤ b ∧ Below w.heap.size w w'
theorem bcopy_post {L : HldL} {w w5 : World} {v5 : Value} (ho : w5.ownsRow w.heap.size 82 4 v5 L.length (hldRow L)) (hb : Below w.heap.size w w5) : BCopyPost L w (.returned (.pointer (some ⟨w5.heap.size, 0, none⟩))) (w5.alloc (.cells #[v5] 174)) :=
  ⟨w5.heap.size, v5, rfl, ⟨heap_alloc_new w5 _, ho.alloc _, fun b e => by have := own_ltN ho e; omega⟩, hb.size, hb.alloc hb.size _⟩
set_option maxRecDepth 100000 in
set_option maxHeartbeats 1000000 in
theorem RBCopy_raw (rb base : Nat) (v : Value) (L : HldL) (hl : L.length ≤ 1000000) (w : World) (h : RBin rb base v L w) :
    Calls Tryz.prog 148 #[.pointer (some ⟨rb, 0, none⟩)] w (BCopyPost L w) := by
  obtain ⟨i0, hi, hz0, hz1, hz2⟩ := info_parts info_held
  obtain ⟨A, c, hv⟩ := own_formI h.own
  subst hv
  have c0 := h.cell
  have HRC := Lib.hid (RdC.ownP h.own)
  have HO1 : Hid (∀ u ∈ hldRow L, u.oneCell' = true) := Lib.hid (fun u hu => hldRow_one L u hu)
  have HP : Hid (∀ (w5 : World) (v5 : Value), w5.ownsRow w.heap.size 82 4 v5 L.length (hldRow L) → Below w.heap.size w w5 → BCopyPost L w (.returned (.pointer (some ⟨w5.heap.size, 0, none⟩))) (w5.alloc (.cells #[v5] 174))) := Lib.hid (fun w5 v5 ho hb => bcopy_post ho hb)
  clear h
  go_enter Tryz.func148, Tryz.ntmps148
  go_wp2_with (first | (at_builtin; refine wpList_append_rdM rfl (.tmp 4) (.tmp 8) 54 rfl w.heap.size 82 i0 (.agg #[.int .u32 0, .int .i64 0, .int .i64 0, .string ByteArray.empty]) 4 40 Tryz.underlying54 hi hz0 hz1 hz2 rfl (by decide) _ 0 [] rfl (World.ownsRow_nil _ _ _ _) w.heap.size _ L.length (hldRow L) rfl HRC.out HO1.out (by unfold maxLen; omega) (by omega) (Nat.le_refl _) ?_; intro v5 w5 ho5 hg5; have hS5 : Below w.heap.size w w5 := below_grownP (Below.refl _ _) (Nat.le_refl _) (World.ownsRow_nil w w.heap.size 82 4) hg5; have ho6 : w5.ownsRow w.heap.size 82 4 v5 L.length (hldRow L) := (by simpa only [Nat.zero_add, List.nil_append] using ho5); obtain ⟨A6, c6, hv6⟩ := own_formI ho6; subst hv6) | fail)

  go_ret
  exact HP.out _ _ ho6 hS5
end Go.Proofs.YtpanoplcamdnkaaGreatDoor

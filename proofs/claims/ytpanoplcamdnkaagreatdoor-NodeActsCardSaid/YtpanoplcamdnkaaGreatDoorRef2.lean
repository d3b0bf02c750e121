/- RnE, RnF, RefY, CutR, RcA, RnG, RnH in one text. Conditions: as each part says. -/
import Derived.Test.YtpanoplcamdnkaaGreatDoorRef1
import Derived.Test.YtpanoplcamdnkaaGreatDoorPln3
import Derived.Test.YtpanoplcamdnkaaGreatDoorRbn1
import Derived.Test.YtpanoplcamdnkaaGreatDoorName
import Derived.Test.YtpanoplcamdnkaaGreatDoorCut1
import Derived.Test.YtpanoplcamdnkaaGreatDoorRcx1
import Derived.Test.YtpanoplcamdnkaaGreatDoorPrR
import Derived.OwnWalk
/- The reference's Node: walk of SetBin. No conditions but bounds. -/
namespace Go.Proofs.YtpanoplcamdnkaaGreatDoor
open Go.RowKit Go.Lib Go.Maps

theorem info_rrep : (Tryz.prog.info? 172).map (fun i => (i.zero, i.size, i.bytes)) = some (some (.agg #[.int .u32 0, .int .i64 0, .pointer none]), 3, 24) := by kernel_rfl
theorem ixP_cases {α : Type} (p : α → Bool) (L : List α) : (ixP p L = -1 ∧ ∀ j (hj : j < L.length), p L[j] = false) ∨ ∃ k, ∃ hk : k < L.length, ixP p L = (k : Int) ∧ p L[k] = true := by
  by_cases h : L.findIdx p < L.length
  · exact .inr ⟨L.findIdx p, h, if_pos h, List.findIdx_getElem⟩
  · refine .inl ⟨if_neg h, fun j hj => ?_⟩
    have := List.not_of_lt_findIdx (p := p) (xs := L) (i := j) (by omega)
    simpa using this
/-- what a bin's own blocks are apart from -/
structure QAp (q : RBE) (n : Nat) (vf vb : Value) (E : REL) (G : List RBE) : Prop where
  rb : q.rb ∉ blkN n vb G
  v : ∀ k, q.v.ownBlock = some k → k ∉ blkN n vb G
  rd : ∀ k, rR vf E k → k ≠ q.rb ∧ q.v.ownBlock ≠ some k
def SetPost (n : Nat) (vf vb : Value) (q : RBE) (E : REL) (G : List RBE) (w : World) (e : Ending) (w' : World) : Prop :=
  e = .returned (.tuple #[]) ∧ ∃ vb' G', ORN n vf vb' E G' w' ∧ G'.map prG = alPut lesser q.x q.L (G.map prG) ∧ (∀ k ∈ blkN n vb' G', k ∈ blkN n vb G ∨ k = q.rb ∨ q.v.ownBlock = some k ∨ w.heap.size ≤ k) ∧ FrS (fun b => b ∈ blkN n vb G) w w'
section
variable {n : Nat} {vf vb v7 : Value} {q : RBE} {E : REL} {G : List RBE} {w W w7 : World}
theorem set_take_drop {α : Type} (l : List α) (k : Nat) (hk : k < l.length) (a : α) : l.set k a = l.take k ++ a :: l.drop (k + 1) := by
  induction l generalizing k with
  | nil => exact absurd hk (Nat.not_lt_zero _)
  | cons x r ih =>
    cases k with
    | zero => rfl
    | succ k => rw [List.set_cons_succ, ih k (by simpa using hk)]; rfl
theorem sub_take_drop {α : Type} (l : List α) (k : Nat) : (l.take k ++ l.drop (k + 1)).Sublist l := by
  conv => rhs; rw [← List.take_append_drop k l]
  exact (List.Sublist.refl _).append (by rw [← List.drop_drop]; exact List.drop_sublist _ _)
theorem sub_take_drop0 {α : Type} (l : List α) (k : Nat) : (l.take k ++ l.drop k).Sublist l := by rw [List.take_append_drop]; exact List.Sublist.refl _
theorem set_found {g c k : Nat} (h : ORN n vf (.slice (some ⟨g, 0, none⟩) G.length c) E G w) (hs : AlSrt lesser (G.map prG)) (hb : Below w.heap.size w W) (hk : k < G.length) (hx : G[k].x = q.x) (hq : RBin q.rb 0 q.v q.L w) (ha : QAp q n vf (.slice (some ⟨g, 0, none⟩) G.length c) E G) :
    SetPost n vf (.slice (some ⟨g, 0, none⟩) G.length c) q E G w (.returned (.tuple #[])) (W.setCell ⟨g, k * 3 + 2, none⟩ (.pointer (some ⟨q.rb, 0, none⟩))) := by
  have hW := h.below hb
  have hgn : g ≠ n := h.vb_ne rfl
  have hkeep : ∀ j, j ≠ g → (W.setCell ⟨g, k * 3 + 2, none⟩ (.pointer (some ⟨q.rb, 0, none⟩))).heap[j]? = W.heap[j]? := fun j hj => set_keepB hj
  have hz : W.heap.size ≤ (W.setCell ⟨g, k * 3 + 2, none⟩ (.pointer (some ⟨q.rb, 0, none⟩))).heap.size := by simp [World.setCell]
  obtain ⟨o1, _⟩ := hW.bins.stored (k * 3 + 2) (.pointer (some ⟨q.rb, 0, none⟩))
  rw [← rbRow_set G k hk q hx.symm] at o1
  have hl : (G.set k q).length = G.length := List.length_set
  have hN : ORN n vf (.slice (some ⟨g, 0, none⟩) G.length c) E (G.take k ++ q :: G.drop (k + 1)) (W.setCell ⟨g, k * 3 + 2, none⟩ (.pointer (some ⟨q.rb, 0, none⟩))) := by
    refine hW.setG hz (fun j _ _ h3 => hkeep j fun e => h3 (by rw [e]; rfl)) ((hkeep n (Ne.symm hgn)).trans hW.row) ?_ (sub_take_drop G k) (hq.below hb) ha.rb ha.v ha.rd (.inl rfl)
    rw [← set_take_drop G k hk q, hl]; exact o1
  refine ⟨rfl, _, _, hN, ?_, fun j hj => blk_ins (sub_take_drop G k) (fun j e => .inl e) hj, ?_⟩
  · rw [← set_take_drop G k hk q, List.map_set, alPut_found idEmb hs (i := k) (by rw [List.length_map]; exact hk) (by rw [List.getElem_map]; exact hx)]; rfl
  · exact ⟨hb.os, hb.tape, hb.output, Nat.le_trans hb.size hz, fun j hj hne => (hkeep j fun e => hne (e ▸ blk_vb rfl)).trans (hb.block j hj)⟩
theorem set_new {k base : Nat} (h : ORN n vf vb E G w) (hbw : Below w.heap.size w W) (hb : Below W.heap.size W w7) (hk : k ≤ G.length) (h1 : ∀ j (hj : j < G.length), j < k → lesser G[j].x q.x = true) (h2 : ∀ hk : k < G.length, lesser G[k].x q.x = false) (hno : ∀ j (hj : j < G.length), G[j].x ≠ q.x)
    (ho : w7.ownsRow base 172 3 v7 (0 + k + 1 + (G.length - k)) (([] ++ (rbRow G).take (k * 3)) ++ rbC q ++ (rbRow G).drop (k * 3))) (hbase : W.heap.size ≤ base) (hq : RBin q.rb 0 q.v q.L w) (ha : QAp q n vf vb E G) :
    SetPost n vf vb q E G w (.returned (.tuple #[])) (w7.setCell ⟨n, 1, none⟩ v7) := by
  have hb2 := hbw.trans (hb.mono hbw.size)
  have hl : (G.take k ++ q :: G.drop k).length = 0 + k + 1 + (G.length - k) := by rw [List.length_append, List.length_take, List.length_cons, List.length_drop]; omega
  have hr : rbRow (G.take k ++ q :: G.drop k) = ([] ++ (rbRow G).take (k * 3)) ++ rbC q ++ (rbRow G).drop (k * 3) := by
    rw [rbRow_append, rbRow_takeG, show rbRow (q :: G.drop k) = rbC q ++ rbRow (G.drop k) from rfl, rbRow_dropG G k hk, List.nil_append, List.append_assoc]
  rw [← hl, ← hr] at ho
  have h7 := h.below hb2
  have hge : ∀ j, v7.ownBlock = some j → W.heap.size ≤ j := fun j e => Nat.le_trans hbase (own_ge ho e)
  have hnW : n < W.heap.size := Nat.lt_of_lt_of_le h.nlt hbw.size
  have hkeep : ∀ j, j ≠ n → (w7.setCell ⟨n, 1, none⟩ v7).heap[j]? = w7.heap[j]? := fun j hj => set_keepB hj
  have hz : w.heap.size ≤ (w7.setCell ⟨n, 1, none⟩ v7).heap.size := by have := hb2.size; simpa [World.setCell] using this
  have hrow : (w7.setCell ⟨n, 1, none⟩ v7).heap[n]? = some (.cells #[vf, v7] 96 (0, 0)) := by
    have := h7.row
    simp [World.setCell, Array.getElem?_modify, this]
  have hN : ORN n vf v7 E (G.take k ++ q :: G.drop k) (w7.setCell ⟨n, 1, none⟩ v7) := by
    refine h.setG hz (fun j hj hjn _ => (hkeep j hjn).trans (hb2.block j hj)) hrow ?_ (sub_take_drop0 G k) hq ha.rb ha.v ha.rd (.inr fun j e => Nat.le_trans hbw.size (hge j e))
    exact own_lower (own_setI ho (by omega)) (Nat.zero_le _)
  refine ⟨rfl, _, _, hN, ?_, fun j hj => blk_ins (sub_take_drop0 G k) (fun j e => .inr (Nat.le_trans hbw.size (hge j e))) hj, ?_⟩
  · rw [List.map_append, List.map_cons, List.map_take, List.map_drop, alPut_ins idEmb k (by rw [List.length_map]; exact hk) (fun j hj hjk => by rw [List.getElem_map]; exact h1 j (by simpa using hj) hjk) (fun hk' => by rw [List.getElem_map]; exact h2 (by simpa using hk')) (fun j hj => by rw [List.getElem_map]; exact hno j (by simpa using hj))]; rfl
  · exact ⟨hb2.os, hb2.tape, hb2.output, hz, fun j hj hne => (hkeep j fun e => hne (e ▸ blk_n)).trans (hb2.block j hj)⟩
end
set_option maxRecDepth 100000 in
set_option maxHeartbeats 2000000 in
theorem RNSetBin_raw (n : Nat) (vf vb : Value) (q : RBE) (E : REL) (G : List RBE) (hl : G.length ≤ 1000) (hs : AlSrt lesser (G.map prG)) (w : World) (h : ORN n vf vb E G w) (hq : RBin q.rb 0 q.v q.L w) (ha : QAp q n vf vb E G) :
    Calls Tryz.prog 152 #[.pointer (some ⟨n, 0, none⟩), idV q.x, .pointer (some ⟨q.rb, 0, none⟩)] w (SetPost n vf vb q E G w) := by
  obtain ⟨i0, hi, hz0, hz1, hz2⟩ := info_parts info_rrep
  have hb1 : Below w.heap.size w (w.alloc (.cells #[.int .u32 (q.x.1 : Int), .int .i64 q.x.2] 47)) := (Below.refl _ _).alloc (Nat.le_refl _) _
  have hn := h.nlt
  have HN := Lib.hid h
  have HQ := Lib.hid hq
  have HA := Lib.hid ha
  have HS := Lib.hid hs
  have HB1 := Lib.hid hb1
  have BX1 := Lib.hid (Box2.mk' w (.int .u32 (q.x.1 : Int)) (.int .i64 q.x.2) 47)
  obtain ⟨r0, r1, _, _⟩ := BX1.out
  clear h hq ha hs
  go_enter Tryz.func152, Tryz.ntmps152
  go_wp2_with fail
  clear r0 r1
  generalize w.alloc (.cells #[.int .u32 (q.x.1 : Int), .int .i64 q.x.2] 47) = w1 at *
  refine (RNFindB_raw n vf vb E G (by omega) q.x _ (HN.out.below hb1)).mono ?_
  rintro e w2 ⟨rfl, hb2⟩
  have HB2 := Lib.hid (hb1.trans (hb2.mono hb1.size))
  have BX2 := Lib.hid (BX1.out.below hb2 BX1.out.lt)
  clear hb1 hb2 BX1 HB1
  obtain ⟨A, c, hvb, hcap, hx⟩ := HN.out.vbf
  subst hvb
  have HX := Lib.hid hx
  have c1 := (HB2.out.cell (p := ⟨n, 1, none⟩) hn).trans HN.out.c1
  clear hx
  rcases ixP_cases (fun p => decide (p.x = q.x)) G with ⟨hix, hno⟩ | ⟨k, hk, hix, hy⟩
  rotate_left
  · rw [hix]
    obtain ⟨g, rfl, hg, hcells⟩ := HX.out (by omega)
    obtain ⟨_, _, x2⟩ := hcells k hk
    have y2 := (HB2.out.cell (p := ⟨g, k * 3 + 2, none⟩) hg).trans x2
    clear hcells x2
    have hge : ((k : Nat) : Int) ≥ 0 := by omega
    have b1 : (0 : Int) ≤ (k : Int) := by omega
    have b2 : (k : Int) < (G.length : Int) := by omega
    have fz := (own_belowI HN.out.bins HB2.out).frozenAt (k * 3 + 2)
    have HP := Lib.hid (set_found HN.out HS.out HB2.out hk (of_decide_eq_true hy) HQ.out HA.out)
    clear hix hy
    go_wp2
    go_end0
    exact HP.out
  · rw [hix]
    have HNO : Hid (∀ j (hj : j < G.length), G[j].x ≠ q.x) := Lib.hid (fun j hj => of_decide_eq_false (hno j hj))
    clear hix hno
    go_wp2
    go_loopg [7] G.length (fun gh v7 wr => ∃ k : Nat, v7 = .int .i64 k ∧ k ≤ G.length ∧ gh = G.length - k ∧ Hid (∀ j (hj : j < G.length), j < k → lesser G[j].x q.x = true) ∧ Hid (Below w2.heap.size w2 wr))
    case atStart => exact ⟨0, rfl, Nat.zero_le _, rfl, Lib.hid (fun j _ h => absurd h (Nat.not_lt_zero _)), Lib.hid (Below.refl _ _)⟩
    case round =>
      obtain ⟨k, rfl, hk, hgm, HLE, HBr⟩ := hrel
      have HBw := Lib.hid (HB2.out.trans (HBr.out.mono HB2.out.size))
      clear c1
      have c1 := (HBw.out.cell (p := ⟨n, 1, none⟩) hn).trans HN.out.c1
      by_cases hkl : k < G.length
      · obtain ⟨g, rfl, hg, hcells⟩ := HX.out (by omega)
        obtain ⟨x0, x1, _⟩ := hcells k hkl
        have Y0 := Lib.hid ((HBw.out.cell (p := ⟨g, k * 3, none⟩) hg).trans x0)
        have Y1 := Lib.hid ((HBw.out.cell (p := ⟨g, k * 3 + 1, none⟩) hg).trans x1)
        have C1 := Lib.hid c1
        have BXr := Lib.hid (BX2.out.below HBr.out BX2.out.lt)
        have hnr : n < wr.heap.size := Nat.lt_of_lt_of_le hn HBw.out.size
        have hgr : g < wr.heap.size := Nat.lt_of_lt_of_le hg HBw.out.size
        have b1 : (0 : Int) ≤ (k : Int) := by omega
        have b2 : (k : Int) < (G.length : Int) := by omega
        clear hcells x0 x1
        go_wp2
        have hS0 : Below wr.heap.size wr wr.drew := (Below.refl _ _).drew
        refine region_S (fun w' => Below wr.heap.size wr w') 10 (by kernel_rfl) (by kernel_rfl) ?_
        refine take_S 0 rfl (by kernel_rfl) (by kernel_rfl) hS0 (fun w' hS => by go_simp; rfl) ?_
        refine take_S 1 rfl (by kernel_rfl) (by kernel_rfl) hS0 (fun w' hS => by go_simp; rfl) ?_
        refine take_S 2 rfl (by kernel_rfl) (by kernel_rfl) hS0 (fun w' hS => by go_simp; rfl) ?_
        refine take_S 3 rfl (by kernel_rfl) (by kernel_rfl) hS0 (fun w' hS => by have A0 := (hS.cell (p := ⟨n, 1, none⟩) hnr).trans C1.out; go_simp; rfl) ?_
        refine take_S 4 rfl (by kernel_rfl) (by kernel_rfl) hS0 (fun w' hS => by go_simp; rfl) ?_
        refine take_S 5 rfl (by kernel_rfl) (by kernel_rfl) hS0 (fun w' hS => by go_simp; rfl) ?_
        refine take_S 6 rfl (by kernel_rfl) (by kernel_rfl) hS0 (fun w' hS => by go_simp; rfl) ?_
        refine take_S 7 rfl (by kernel_rfl) (by kernel_rfl) hS0 (fun w' hS => by have A0 := (hS.cell (p := ⟨g, k * 3, none⟩) hgr).trans Y0.out; have A1 := (hS.cell (p := ⟨g, k * 3 + 1, none⟩) hgr).trans Y1.out; go_simp; rfl) ?_
        refine take_S 8 rfl (by kernel_rfl) (by kernel_rfl) hS0 (fun w' hS => by obtain ⟨A0, A1, _, _⟩ := BXr.out.below hS BXr.out.lt; go_simp; rfl) ?_
        refine carry_S 9 rfl (by kernel_rfl) (by decide) (by kernel_rfl) (fun K hK => ?_)
        go_simp
        refine (RIsLess_any G[k].x.1 q.x.1 G[k].x.2 q.x.2 _).mono ?_
        rintro e W ⟨rfl, hbW⟩
        have hS1 : Below wr.heap.size wr W := hS0.trans (hbW.mono hS0.size)
        refine hK _ _ hS1 (forced_S (by kernel_rfl) ?_)
        clear hK K
        try simp only [Act.put, List.getElem_toArray, List.getElem_cons_succ, List.getElem_cons_zero, List.setIfInBounds_toArray, List.set_cons_zero, List.set_cons_succ]
        try simp only [Act.put, List.getElem_toArray, List.getElem_cons_succ, List.getElem_cons_zero, List.setIfInBounds_toArray, List.set_cons_zero, List.set_cons_succ]
        simp only [List.drop_succ_cons, List.drop_zero]
        have HBd := Lib.hid (HBr.out.trans (hS1.mono HBr.out.size))
        have HBW := Lib.hid (HB2.out.trans (HBd.out.mono HB2.out.size))
        have HXB := Lib.hid (BX2.out.below HBd.out BX2.out.lt)
        clear hS0 hS1 hbW c1
        have c1 := (HBW.out.cell (p := ⟨n, 1, none⟩) hn).trans HN.out.c1
        cases hlt : lessId G[k].x.1 q.x.1 G[k].x.2 q.x.2 with
        | true =>
          have HN2 : Hid (∀ j (hj : j < G.length), j < k + 1 → lesser G[j].x q.x = true) := Lib.hid fun i hi h => by
            rcases Nat.lt_or_ge i k with h1 | h1
            · exact HLE.out i hi h1
            · obtain rfl : i = k := by omega
              exact hlt
          clear HLE hlt
          go_wp2
          go_roundg (G.length - (k + 1))
          case measure => omega
          case rel => exact ⟨k + 1, by go_num, hkl, rfl, HN2, HBd⟩
        | false =>
          have h2 : ∀ (hk : k < G.length), lesser G[k].x q.x = false := fun _ => hlt
          have HNW := Lib.hid (HN.out.below HBW.out)
          clear hlt
          have HRC : Hid (RdC W W.heap.size 3 (.slice (some ⟨g, 0, none⟩) G.length c) G.length (rbRow G)) := Lib.hid (RdC.ownP HNW.out.bins)
          have HT1 : Hid (RdC W W.heap.size 3 (.slice (some ⟨g, 0, none⟩) k c) k ((rbRow G).take (k * 3))) := Lib.hid (HRC.out.takeM k (by omega))
          have HT3 : Hid (RdC W W.heap.size 3 (.slice (some ⟨g, k * 3, none⟩) (G.length - k) (c - k)) (G.length - k) ((rbRow G).drop (k * 3))) := Lib.hid (by have h := HRC.out.cutM k (by omega); rw [if_neg (by omega), Option.map_some, add_eqM, Nat.zero_add] at h; exact h)
          have HO1 : Hid (∀ u ∈ (rbRow G).take (k * 3), u.oneCell' = true) := Lib.hid (fun u hu => rbRow_one G u (List.mem_of_mem_take hu))
          have HO3 : Hid (∀ u ∈ (((rbRow G).drop (k * 3)) : List Value), u.oneCell' = true) := Lib.hid (fun u hu => rbRow_one G u (List.mem_of_mem_drop hu))
          have HP : Hid (∀ (w7 : World) (v7 : Value), w7.ownsRow W.heap.size 172 3 v7 (0 + k + 1 + (G.length - k)) (([] ++ (rbRow G).take (k * 3)) ++ [.int .u32 (q.x.1 : Int), .int .i64 q.x.2, .pointer (some ⟨q.rb, 0, none⟩)] ++ ((rbRow G).drop (k * 3))) → Below W.heap.size W w7 → SetPost n vf (.slice (some ⟨g, 0, none⟩) G.length c) q E G w (.returned (.tuple #[])) (w7.setCell ⟨n, 1, none⟩ v7)) := Lib.hid (fun w7 v7 ho hb => set_new HN.out HBW.out hb (by omega) HLE.out h2 HNO.out (by exact ho) (Nat.le_refl _) HQ.out HA.out)
          have q1 : (0 : Int) ≤ (k : Int) := by omega
          have q2 : (k : Int) ≤ (G.length : Int) := by omega
          have q3 : (k : Int) ≤ (c : Int) := by omega
          have hnl : n < W.heap.size := HNW.out.nlt
          have nc0 := HNW.out.c1
          obtain ⟨r0, r1, _, _⟩ := HXB.out
          clear h2 HLE
          go_wp2_with (first | (at_builtin; refine wpList_append_rdM rfl (.tmp 44) (.tmp 50) 94 rfl W.heap.size 172 i0 (.agg #[.int .u32 0, .int .i64 0, .pointer none]) 3 24 Tryz.underlying94 hi hz0 hz1 hz2 rfl (by decide) _ 0 [] rfl (World.ownsRow_nil _ _ _ _) W.heap.size _ k ((rbRow G).take (k * 3)) rfl HT1.out HO1.out (by unfold maxLen; omega) (by omega) (Nat.le_refl _) ?_; intro v5 w5 ho5 hg5; have hS5 : Below W.heap.size W w5 := below_grownP (Below.refl _ _) (Nat.le_refl _) (World.ownsRow_nil W W.heap.size 172 3) hg5; obtain ⟨m0, m1, _, _⟩ := HXB.out.below hS5 HXB.out.lt; have nc5 := (hS5.cell (p := ⟨n, 1, none⟩) hnl).trans nc0; have HNE := Lib.hid (cells_new3 w5 (.int .u32 (q.x.1 : Int)) (.int .i64 q.x.2) (.pointer (some ⟨q.rb, 0, none⟩)) 172)) | (at_builtin; refine wpList_append_own _ rfl (.tmp 52) (.tmp 56) 94 rfl W.heap.size 172 i0 (.agg #[.int .u32 0, .int .i64 0, .pointer none]) 3 24 Tryz.underlying94 hi hz0 hz1 hz2 rfl (by decide) _ _ _ rfl (ho5.alloc _) ⟨w5.heap.size, 0, none⟩ 1 1 [.int .u32 (q.x.1 : Int), .int .i64 q.x.2, .pointer (some ⟨q.rb, 0, none⟩)] rfl rfl HNE.out (by simp [Value.oneCell']) (by unfold maxLen; omega) (by omega) (by have := hS5.size; simp; omega) ?_; intro v6 w6 ho6 hg6 _; have hS6 : Below W.heap.size W w6 := below_append hS5 hS5.size ho5 hg6; have nc6 := (hS6.cell (p := ⟨n, 1, none⟩) hnl).trans nc0) | (at_builtin; refine wpList_append_rdM rfl (.tmp 59) (.tmp 65) 94 rfl W.heap.size 172 i0 (.agg #[.int .u32 0, .int .i64 0, .pointer none]) 3 24 Tryz.underlying94 hi hz0 hz1 hz2 rfl (by decide) _ _ _ rfl ho6 W.heap.size _ (G.length - k) ((rbRow G).drop (k * 3)) rfl (HT3.out.below hS6) HO3.out (by unfold maxLen; omega) (by omega) hS6.size ?_; intro v7 w7 ho7 hg7; have hS7 : Below W.heap.size W w7 := below_grownP hS6 hS6.size ho6 hg7; obtain ⟨A7, c7, hv7⟩ := own_formI ho7; subst hv7; have hrow7 := (hS7.block n hnl).trans HNW.out.row; have d0 := cell_of_row w7 n 1 _ _ _ hrow7; have e0 := frozen_of_row w7 n 1 _ _ hrow7) | fail)
          go_end0
          exact HP.out _ _ (by simpa only [Nat.zero_add, Nat.add_zero] using ho7) hS7
      · obtain rfl : k = G.length := by omega
        have h2 : ∀ (hk : G.length < G.length), lesser G[G.length].x q.x = false := fun hk => absurd hk (Nat.lt_irrefl _)
        have HBW := HBw
        have HNW := Lib.hid (HN.out.below HBW.out)
        have HXB := Lib.hid (BX2.out.below HBr.out BX2.out.lt)
        by_cases hcl : c = G.length
        · subst hcl
          have HRC : Hid (RdC wr wr.heap.size 3 (.slice A G.length G.length) G.length (rbRow G)) := Lib.hid (RdC.ownP HNW.out.bins)
          have HT1 : Hid (RdC wr wr.heap.size 3 (.slice A G.length G.length) G.length ((rbRow G).take (G.length * 3))) := Lib.hid (HRC.out.takeM G.length (by omega))
          have HT3 := Lib.hid trivial
          have HO1 : Hid (∀ u ∈ (rbRow G).take (G.length * 3), u.oneCell' = true) := Lib.hid (fun u hu => rbRow_one G u (List.mem_of_mem_take hu))
          have HO3 : Hid (∀ u ∈ ([] : List Value), u.oneCell' = true) := Lib.hid (fun u hu => absurd hu List.not_mem_nil)
          have HP : Hid (∀ (w7 : World) (v7 : Value), w7.ownsRow wr.heap.size 172 3 v7 (0 + G.length + 1 + 0) (([] ++ (rbRow G).take (G.length * 3)) ++ [.int .u32 (q.x.1 : Int), .int .i64 q.x.2, .pointer (some ⟨q.rb, 0, none⟩)] ++ []) → Below wr.heap.size wr w7 → SetPost n vf (.slice A G.length G.length) q E G w (.returned (.tuple #[])) (w7.setCell ⟨n, 1, none⟩ v7)) := Lib.hid (fun w7 v7 ho hb => set_new HN.out HBW.out hb (by omega) HLE.out h2 HNO.out (by rw [List.drop_of_length_le (show (rbRow G).length ≤ G.length * 3 from Nat.le_of_eq (rbRow_length G)), Nat.sub_self]; exact ho) (Nat.le_refl _) HQ.out HA.out)
          have q1 : (0 : Int) ≤ (G.length : Int) := by omega
          have q2 : (G.length : Int) ≤ (G.length : Int) := by omega
          have q3 : (G.length : Int) ≤ (G.length : Int) := by omega
          have hnl : n < wr.heap.size := HNW.out.nlt
          have nc0 := HNW.out.c1
          obtain ⟨r0, r1, _, _⟩ := HXB.out
          clear h2 HLE
          go_wp2_with (first | (at_builtin; refine wpList_append_rdM rfl (.tmp 44) (.tmp 50) 94 rfl wr.heap.size 172 i0 (.agg #[.int .u32 0, .int .i64 0, .pointer none]) 3 24 Tryz.underlying94 hi hz0 hz1 hz2 rfl (by decide) _ 0 [] rfl (World.ownsRow_nil _ _ _ _) wr.heap.size _ G.length ((rbRow G).take (G.length * 3)) rfl HT1.out HO1.out (by unfold maxLen; omega) (by omega) (Nat.le_refl _) ?_; intro v5 w5 ho5 hg5; have hS5 : Below wr.heap.size wr w5 := below_grownP (Below.refl _ _) (Nat.le_refl _) (World.ownsRow_nil wr wr.heap.size 172 3) hg5; obtain ⟨m0, m1, _, _⟩ := HXB.out.below hS5 HXB.out.lt; have nc5 := (hS5.cell (p := ⟨n, 1, none⟩) hnl).trans nc0; have HNE := Lib.hid (cells_new3 w5 (.int .u32 (q.x.1 : Int)) (.int .i64 q.x.2) (.pointer (some ⟨q.rb, 0, none⟩)) 172)) | (at_builtin; refine wpList_append_own _ rfl (.tmp 52) (.tmp 56) 94 rfl wr.heap.size 172 i0 (.agg #[.int .u32 0, .int .i64 0, .pointer none]) 3 24 Tryz.underlying94 hi hz0 hz1 hz2 rfl (by decide) _ _ _ rfl (ho5.alloc _) ⟨w5.heap.size, 0, none⟩ 1 1 [.int .u32 (q.x.1 : Int), .int .i64 q.x.2, .pointer (some ⟨q.rb, 0, none⟩)] rfl rfl HNE.out (by simp [Value.oneCell']) (by unfold maxLen; omega) (by omega) (by have := hS5.size; simp; omega) ?_; intro v6 w6 ho6 hg6 _; have hS6 : Below wr.heap.size wr w6 := below_append hS5 hS5.size ho5 hg6; have nc6 := (hS6.cell (p := ⟨n, 1, none⟩) hnl).trans nc0) | (at_builtin; refine wpList_append_rdM rfl (.tmp 59) (.tmp 65) 94 rfl wr.heap.size 172 i0 (.agg #[.int .u32 0, .int .i64 0, .pointer none]) 3 24 Tryz.underlying94 hi hz0 hz1 hz2 rfl (by decide) _ _ _ rfl ho6 wr.heap.size _ 0 [] rfl (RdC.nilP _ _ _ _ _) HO3.out (by unfold maxLen; omega) (by omega) hS6.size ?_; intro v7 w7 ho7 hg7; have hS7 : Below wr.heap.size wr w7 := below_grownP hS6 hS6.size ho6 hg7; obtain ⟨A7, c7, hv7⟩ := own_formI ho7; subst hv7; have hrow7 := (hS7.block n hnl).trans HNW.out.row; have d0 := cell_of_row w7 n 1 _ _ _ hrow7; have e0 := frozen_of_row w7 n 1 _ _ hrow7) | fail)
          go_end0
          exact HP.out _ _ (by simpa only [Nat.zero_add, Nat.add_zero] using ho7) hS7
        · have hcl2 : ¬ G.length = c := fun h => hcl h.symm
          have HRC : Hid (RdC wr wr.heap.size 3 (.slice A G.length c) G.length (rbRow G)) := Lib.hid (RdC.ownP HNW.out.bins)
          have HT1 : Hid (RdC wr wr.heap.size 3 (.slice A G.length c) G.length ((rbRow G).take (G.length * 3))) := Lib.hid (HRC.out.takeM G.length (by omega))
          have HT3 := Lib.hid trivial
          have HO1 : Hid (∀ u ∈ (rbRow G).take (G.length * 3), u.oneCell' = true) := Lib.hid (fun u hu => rbRow_one G u (List.mem_of_mem_take hu))
          have HO3 : Hid (∀ u ∈ ([] : List Value), u.oneCell' = true) := Lib.hid (fun u hu => absurd hu List.not_mem_nil)
          have HP : Hid (∀ (w7 : World) (v7 : Value), w7.ownsRow wr.heap.size 172 3 v7 (0 + G.length + 1 + 0) (([] ++ (rbRow G).take (G.length * 3)) ++ [.int .u32 (q.x.1 : Int), .int .i64 q.x.2, .pointer (some ⟨q.rb, 0, none⟩)] ++ []) → Below wr.heap.size wr w7 → SetPost n vf (.slice A G.length c) q E G w (.returned (.tuple #[])) (w7.setCell ⟨n, 1, none⟩ v7)) := Lib.hid (fun w7 v7 ho hb => set_new HN.out HBW.out hb (by omega) HLE.out h2 HNO.out (by rw [List.drop_of_length_le (show (rbRow G).length ≤ G.length * 3 from Nat.le_of_eq (rbRow_length G)), Nat.sub_self]; exact ho) (Nat.le_refl _) HQ.out HA.out)
          have q1 : (0 : Int) ≤ (G.length : Int) := by omega
          have q2 : (G.length : Int) ≤ (G.length : Int) := by omega
          have q3 : (G.length : Int) ≤ (c : Int) := by omega
          have hnl : n < wr.heap.size := HNW.out.nlt
          have nc0 := HNW.out.c1
          obtain ⟨r0, r1, _, _⟩ := HXB.out
          clear h2 HLE
          go_wp2_with (first | (at_builtin; refine wpList_append_rdM rfl (.tmp 44) (.tmp 50) 94 rfl wr.heap.size 172 i0 (.agg #[.int .u32 0, .int .i64 0, .pointer none]) 3 24 Tryz.underlying94 hi hz0 hz1 hz2 rfl (by decide) _ 0 [] rfl (World.ownsRow_nil _ _ _ _) wr.heap.size _ G.length ((rbRow G).take (G.length * 3)) rfl HT1.out HO1.out (by unfold maxLen; omega) (by omega) (Nat.le_refl _) ?_; intro v5 w5 ho5 hg5; have hS5 : Below wr.heap.size wr w5 := below_grownP (Below.refl _ _) (Nat.le_refl _) (World.ownsRow_nil wr wr.heap.size 172 3) hg5; obtain ⟨m0, m1, _, _⟩ := HXB.out.below hS5 HXB.out.lt; have nc5 := (hS5.cell (p := ⟨n, 1, none⟩) hnl).trans nc0; have HNE := Lib.hid (cells_new3 w5 (.int .u32 (q.x.1 : Int)) (.int .i64 q.x.2) (.pointer (some ⟨q.rb, 0, none⟩)) 172)) | (at_builtin; refine wpList_append_own _ rfl (.tmp 52) (.tmp 56) 94 rfl wr.heap.size 172 i0 (.agg #[.int .u32 0, .int .i64 0, .pointer none]) 3 24 Tryz.underlying94 hi hz0 hz1 hz2 rfl (by decide) _ _ _ rfl (ho5.alloc _) ⟨w5.heap.size, 0, none⟩ 1 1 [.int .u32 (q.x.1 : Int), .int .i64 q.x.2, .pointer (some ⟨q.rb, 0, none⟩)] rfl rfl HNE.out (by simp [Value.oneCell']) (by unfold maxLen; omega) (by omega) (by have := hS5.size; simp; omega) ?_; intro v6 w6 ho6 hg6 _; have hS6 : Below wr.heap.size wr w6 := below_append hS5 hS5.size ho5 hg6; have nc6 := (hS6.cell (p := ⟨n, 1, none⟩) hnl).trans nc0) | (at_builtin; refine wpList_append_rdM rfl (.tmp 59) (.tmp 65) 94 rfl wr.heap.size 172 i0 (.agg #[.int .u32 0, .int .i64 0, .pointer none]) 3 24 Tryz.underlying94 hi hz0 hz1 hz2 rfl (by decide) _ _ _ rfl ho6 wr.heap.size _ 0 [] rfl (RdC.nilP _ _ _ _ _) HO3.out (by unfold maxLen; omega) (by omega) hS6.size ?_; intro v7 w7 ho7 hg7; have hS7 : Below wr.heap.size wr w7 := below_grownP hS6 hS6.size ho6 hg7; obtain ⟨A7, c7, hv7⟩ := own_formI ho7; subst hv7; have hrow7 := (hS7.block n hnl).trans HNW.out.row; have d0 := cell_of_row w7 n 1 _ _ _ hrow7; have e0 := frozen_of_row w7 n 1 _ _ hrow7) | fail)
          go_end0
          exact HP.out _ _ (by simpa only [Nat.zero_add, Nat.add_zero] using ho7) hS7
end Go.Proofs.YtpanoplcamdnkaaGreatDoor
/- The reference's Node: laws for Put: places in sorted lists, what stays while a bin is filled, the end of Put. No program in sight but worlds. -/
namespace Go.Proofs.YtpanoplcamdnkaaGreatDoor
open Go.RowKit Go.Lib Go.Maps

theorem place_ex {α : Type} (p : α → Bool) (L : List α) : ∃ k, k ≤ L.length ∧ (∀ j (hj : j < L.length), j < k → p L[j] = true) ∧ ∀ hk : k < L.length, p L[k] = false := by
  refine ⟨L.findIdx (fun x => !p x), List.findIdx_le_length, fun j hj hlt => ?_, fun hk => ?_⟩
  · have := List.not_of_lt_findIdx (p := fun x => !p x) (xs := L) hlt
    simpa using this
  · have := List.findIdx_getElem (p := fun x => !p x) (xs := L) (w := hk)
    simpa using this
def fxE (x : Rcp × Value) : Bytes × Rcp := (x.1.name, x.1)
theorem plainR_eq (E : REL) (G : List RBE) : plainR E G = ⟨E.map fxE, G.map prG⟩ := rfl
theorem insE_plain {E : REL} {k : Nat} {x : Rcp × Value} (hk : k ≤ E.length) (h1 : ∀ j (hj : j < E.length), j < k → bytesBefore E[j].1.name x.1.name = true) (h2 : ∀ hk : k < E.length, bytesBefore E[k].1.name x.1.name = false) (hno : ∀ j (hj : j < E.length), E[j].1.name ≠ x.1.name) :
    (insE k x E).map fxE = alPut bytesBefore x.1.name x.1 (E.map fxE) := by
  unfold insE
  rw [List.map_append, List.map_cons, List.map_take, List.map_drop, alPut_ins strEmb k (by rw [List.length_map]; exact hk) (fun j hj hjk => by rw [List.getElem_map]; exact h1 j (by simpa using hj) hjk) (fun hk' => by rw [List.getElem_map]; exact h2 (by simpa using hk')) (fun j hj => by rw [List.getElem_map]; exact hno j (by simpa using hj))]; rfl
theorem getE_none {E : REL} {nm : Bytes} (h : ∀ j (hj : j < E.length), E[j].1.name ≠ nm) : alGet (E.map fxE) nm = none := alGet_none.2 fun p hp => by
  obtain ⟨q, hq, rfl⟩ := List.mem_map.1 hp
  obtain ⟨j, hj, rfl⟩ := List.getElem_of_mem hq
  exact h j hj
theorem getE_some {E : REL} {nm : Bytes} {k : Nat} (hs : AlSrt bytesBefore (E.map fxE)) (hk : k < E.length) (he : E[k].1.name = nm) : alGet (E.map fxE) nm = some E[k].1 := by
  have h := alGet_of_mem strEmb hs (List.mem_map_of_mem (f := fxE) (List.getElem_mem hk))
  rw [show (fxE E[k]).1 = nm from he] at h
  exact h
theorem getG_none {G : List RBE} {x : Idn} (h : ∀ j (hj : j < G.length), G[j].x ≠ x) : alGet (G.map prG) x = none := alGet_none.2 fun p hp => by
  obtain ⟨q, hq, rfl⟩ := List.mem_map.1 hp
  obtain ⟨j, hj, rfl⟩ := List.getElem_of_mem hq
  exact h j hj
theorem getG_some {G : List RBE} {x : Idn} {k : Nat} (hs : AlSrt lesser (G.map prG)) (hk : k < G.length) (he : G[k].x = x) : alGet (G.map prG) x = some G[k].L := by
  have h := alGet_of_mem idEmb hs (List.mem_map_of_mem (f := prG) (List.getElem_mem hk))
  rw [show (prG G[k]).1 = x from he] at h
  exact h
/-- what an act on the reference's node leaves -/
def RNTo (n : Nat) (f : Foot) (P' : PNode) (w w' : World) : Prop := ∃ vf vb E G, ORN n vf vb E G w' ∧ plainR E G = P' ∧ f.new (rFoot n vf vb E G) w.heap.size ∧ FrS f.S w w'
section
variable {n b m k base : Nat} {vf vb v v0 v1 v7 sl : Value} {E : REL} {G : List RBE} {r : Rcp} {x : Idn} {L L' : HldL} {w wr w9 w0 w1 w' : World}
theorem RNTo.stay (h : ORN n vf vb E G w) (hb : Below w.heap.size w w') : RNTo n (rFoot n vf vb E G) (plainR E G) w w' := ⟨vf, vb, E, G, h.below hb, rfl, Foot.new_refl _ _, FrS.of_below hb⟩
theorem BFrame.trans' (h : BFrame b v0 w0 w) (k : BFrame b v w w1) (hv : v.ownBlock = v0.ownBlock ∨ ∀ k, v.ownBlock = some k → w0.heap.size ≤ k) : BFrame b v0 w0 w1 :=
  ⟨k.os.trans h.os, k.tape.trans h.tape, k.output.trans h.output, Nat.le_trans h.size k.size, fun j hj h1 h2 => (k.block j (Nat.lt_of_lt_of_le hj h.size) h1 (fun e => by
    rcases hv with hv | hv
    · exact h2 (hv ▸ e)
    · have := hv j e; omega)).trans (h.block j hj h1 h2)⟩
theorem BFrame.below' {B : Nat} (h : BFrame b v0 w0 w1) (hw : Below B w w0) (hB : B ≤ w0.heap.size) (hb : B ≤ b) (hv : ∀ k, v0.ownBlock = some k → B ≤ k) : Below B w w1 :=
  FrS.below (S := fun k => k = b ∨ v0.ownBlock = some k) hw hB ⟨h.os, h.tape, h.output, h.size, fun k hk hn => h.block k hk (fun e => hn (.inl e)) (fun e => hn (.inr e))⟩ fun k hk => by
    rcases hk with rfl | e
    · exact hb
    · exact hv k e
theorem RBin.low (h : RBin b base v L w) : RBin b 0 v L w := ⟨h.row, own_lower h.own (Nat.zero_le _), h.ne⟩
theorem put_mid (h : ORN n vf vb E G w) (hb : Below w.heap.size w wr) (hm : w.heap.size ≤ m) (hmb : m ≤ b) (hR : RBin b base v L wr) (hv : ∀ k, v.ownBlock = some k → m ≤ k) (hsl : ∀ k, sl.ownBlock = some k → r.ids ≠ [] → w.heap.size ≤ k ∧ k < m) (h7 : ∀ j, v7.ownBlock = some j → wr.heap.size ≤ j) (hf : FrS (fun b => b = n) wr w9) :
    RBin b 0 v L w9 ∧ QAp ⟨x, L, b, v⟩ n v7 vb (insE k (r, sl) E) G := by
  have hnl := h.nlt
  have hlt : ∀ j, j ∈ blkN n vb G → j < w.heap.size := fun j hj => h.blk_lt hj
  refine ⟨hR.low.keepK (hf.block b hR.lt (by omega)) fun g e => hf.block g (own_ltN hR.own e) (by have := hv g e; omega), fun hm => by have := hlt b hm; omega, fun j e hj => by have := hlt j hj; have := hv j e; omega, fun j hj => ?_⟩
  have hj2 : j < m ∨ wr.heap.size ≤ j := by
    rcases hj with ⟨e, _⟩ | ⟨y, hy, e, ne⟩
    · exact .inr (h7 j e)
    · rcases List.mem_append.1 hy with hy | hy
      · have := h.rlt j (.inr ⟨y, List.mem_of_mem_take hy, e, ne⟩)
        exact .inl (by omega)
      · rcases List.mem_cons.1 hy with rfl | hy
        · exact .inl (hsl j e ne).2
        · have := h.rlt j (.inr ⟨y, List.mem_of_mem_drop hy, e, ne⟩)
          exact .inl (by omega)
  have hbl := hR.lt
  exact ⟨fun e => by have e : j = b := e; omega, fun e => by have := hv j e; have := own_ltN hR.own e; omega⟩
theorem put_end (h : ORN n vf vb E G w) (hb : Below w.heap.size w wr) (hm : w.heap.size ≤ m) (hmb : m ≤ b) (hv : ∀ k, v.ownBlock = some k → m ≤ k) (hsl : ∀ k, sl.ownBlock = some k → r.ids ≠ [] → w.heap.size ≤ k ∧ k < m) (h7 : ∀ j, v7.ownBlock = some j → wr.heap.size ≤ j) (hf : FrS (fun b => b = n) wr w9)
    (hk : k ≤ E.length) (h1 : ∀ j (hj : j < E.length), j < k → bytesBefore E[j].1.name r.name = true) (h2 : ∀ hk : k < E.length, bytesBefore E[k].1.name r.name = false) (hno : ∀ j (hj : j < E.length), E[j].1.name ≠ r.name) {e : Ending} (hS : SetPost n v7 vb ⟨x, L, b, v⟩ (insE k (r, sl) E) G w9 e w') :
    RNTo n (rFoot n vf vb E G) ⟨alPut bytesBefore r.name r (E.map fxE), alPut lesser x L (G.map prG)⟩ w w' := by
  obtain ⟨_, vb', G', hN, hp, hbl, hfr⟩ := hS
  have hs9 := hf.size
  have hsr := hb.size
  refine ⟨v7, vb', _, G', hN, ?_, fun j => ⟨fun hj => ?_, fun hj => ?_⟩, ?_⟩
  · rw [plainR_eq, hp, insE_plain hk h1 h2 hno]
  · rcases hbl j hj with h3 | h3 | h3 | h3
    · exact .inl h3
    · exact .inr (by have h3 : j = b := h3; omega)
    · exact .inr (by have := hv j h3; omega)
    · exact .inr (by omega)
  · rcases hj with ⟨e, _⟩ | ⟨y, hy, e, ne⟩
    · exact .inr (by have := h7 j e; omega)
    · rcases List.mem_append.1 hy with hy | hy
      · exact .inl (.inr ⟨y, List.mem_of_mem_take hy, e, ne⟩)
      · rcases List.mem_cons.1 hy with rfl | hy
        · exact .inr (hsl j e ne).1
        · exact .inl (.inr ⟨y, List.mem_of_mem_drop hy, e, ne⟩)
  · refine ((FrS.of_below (S := (rFoot n vf vb E G).S) hb).trans hf fun j hj => .inl (hj ▸ blk_n)).trans hfr fun j hj => .inl hj
end
/-! ### putting pieces -/
theorem putAll_drop {ps : List Bytes} {k : Nat} (hk : k < ps.length) (L : HldL) (f : Int) : putAll (ps.drop k) L f = if (putB ps[k] L).2.2.2 = 0 then putAll (ps.drop (k + 1)) (putB ps[k] L).1 (f + if (putB ps[k] L).2.2.1 then (ps[k].length : Int) else 0) else ((putB ps[k] L).1, 0, (putB ps[k] L).2.2.2) := by
  rw [List.drop_eq_getElem_cons hk, putAll]
theorem putB_code (s : Bytes) (L : HldL) : (putB s L).2.2.2 = 0 ∨ (putB s L).2.2.2 = 2 ∨ (putB s L).2.2.2 = 7 ∨ (putB s L).2.2.2 = 10 := by
  have h := putAll_code [s] L 0
  unfold putAll at h
  split at h
  · next h0 => exact .inl h0
  · exact h
theorem ofRes_cases (nm s : Bytes) : ((ofRes nm s).1 = 4 ∧ isName nm = false) ∨ ((ofRes nm s).1 = 2 ∧ isName nm = true ∧ 4000 < s.length) ∨ (ofRes nm s = (0, rcpOf nm s) ∧ isName nm = true ∧ s.length ≤ 4000) := by
  unfold ofRes
  cases h : isName nm with
  | false => exact .inl ⟨by simp, rfl⟩
  | true =>
    by_cases h4 : 4000 < s.length
    · exact .inr (.inl ⟨by rw [if_neg (by simp), if_pos h4], rfl, h4⟩)
    · exact .inr (.inr ⟨by rw [if_neg (by simp), if_neg h4], rfl, by omega⟩)
def RPutTo (n : Nat) (vf vb : Value) (nm s : Bytes) (E : REL) (G : List RBE) (w : World) (e : Ending) (w' : World) : Prop :=
  e = .returned (.tuple #[.int .i64 (putN nm s (plainR E G)).2.1, .int .i64 (putN nm s (plainR E G)).2.2]) ∧ RNTo n (rFoot n vf vb E G) (putN nm s (plainR E G)).1 w w'
theorem pN_name {nm s : Bytes} {P : PNode} (h : isName nm = false) : putN nm s P = (P, 0, 4) := by unfold putN; rw [if_pos h]
theorem pN_long {nm s : Bytes} {P : PNode} (h : isName nm = true) (h4 : 4000 < s.length) : putN nm s P = (P, 0, 2) := by unfold putN; rw [if_neg (by rw [h]; simp), if_pos h4]
theorem pN_has {nm s : Bytes} {P : PNode} {r : Rcp} (h : isName nm = true) (h4 : s.length ≤ 4000) (hg : alGet P.files nm = some r) : putN nm s P = (P, 0, 6) := by unfold putN; rw [if_neg (by rw [h]; simp), if_neg (by omega), if_pos (by rw [hg]; rfl)]
theorem pN_full {nm s : Bytes} {P : PNode} (h : isName nm = true) (h4 : s.length ≤ 4000) (hg : alGet P.files nm = none) (hf : 30 ≤ P.files.length) : putN nm s P = (P, 0, 7) := by unfold putN; rw [if_neg (by rw [h]; simp), if_neg (by omega), if_neg (by rw [hg]; simp), if_pos hf]
theorem putN_main' {nm s : Bytes} {P : PNode} {L : HldL} (h : isName nm = true) (h4 : s.length ≤ 4000) (hg : alGet P.files nm = none) (hf : P.files.length < 30) (hL : L = binN P (repOf (idsOf s))) :
    putN nm s P = if (putAll (pieces s) L 0).2.2 = 0 then (⟨alPut bytesBefore nm (rcpOf nm s) P.files, alPut lesser (repOf (idsOf s)) (putAll (pieces s) L 0).1 P.bins⟩, (putAll (pieces s) L 0).2.1, 0) else (P, 0, (putAll (pieces s) L 0).2.2) := by
  subst hL
  unfold putN; rw [if_neg (by rw [h]; simp), if_neg (by omega), if_neg (by rw [hg]; simp), if_neg (by omega)]
end Go.Proofs.YtpanoplcamdnkaaGreatDoor
/- Walk of the reference's IsName. No conditions but bounds. -/
namespace Go.Proofs.YtpanoplcamdnkaaGreatDoor
open Go.RowKit Go.Lib

theorem nameC (c : UInt8) : nameSet.contains c = (decide (97 ≤ c.toNat ∧ c.toNat ≤ 122) || decide (48 ≤ c.toNat ∧ c.toNat ≤ 57) || decide (c.toNat = 46) || decide (c.toNat = 45)) := by
  have h : ∀ i : Fin 256, nameSet.contains (UInt8.ofNat i.1) = (decide (97 ≤ (UInt8.ofNat i.1).toNat ∧ (UInt8.ofNat i.1).toNat ≤ 122) || decide (48 ≤ (UInt8.ofNat i.1).toNat ∧ (UInt8.ofNat i.1).toNat ≤ 57) || decide ((UInt8.ofNat i.1).toNat = 46) || decide ((UInt8.ofNat i.1).toNat = 45)) := by decide +kernel
  have := h ⟨c.toNat, c.toNat_lt⟩
  rwa [show UInt8.ofNat (⟨c.toNat, c.toNat_lt⟩ : Fin 256).1 = c from UInt8.ofNat_toNat] at this
theorem nameC_yes {c : UInt8} (h : (97 ≤ c.toNat ∧ c.toNat ≤ 122) ∨ (48 ≤ c.toNat ∧ c.toNat ≤ 57) ∨ c.toNat = 46 ∨ c.toNat = 45) : nameSet.contains c = true := by
  rw [nameC]
  rcases h with h | h | h | h
  · rw [decide_eq_true h]; rfl
  · rw [decide_eq_true h, Bool.or_true]; rfl
  · rw [decide_eq_true h, Bool.or_true]; rfl
  · rw [decide_eq_true h, Bool.or_true]
theorem nameC_no {c : UInt8} (h1 : ¬ (97 ≤ c.toNat ∧ c.toNat ≤ 122)) (h2 : ¬ (48 ≤ c.toNat ∧ c.toNat ≤ 57)) (h3 : ¬ c.toNat = 46) (h4 : ¬ c.toNat = 45) : nameSet.contains c = false := by
  rw [nameC, decide_eq_false h1, decide_eq_false h2, decide_eq_false h3, decide_eq_false h4]; rfl
theorem all_next {l : List UInt8} {k : Nat} (hk : k < l.length) (h : (l.take k).all (nameSet.contains ·) = true) (h1 : nameSet.contains l[k] = true) : (l.take (k + 1)).all (nameSet.contains ·) = true := by
  rw [List.take_succ_eq_append_getElem hk, List.all_append, h]; simp only [List.all_cons, List.all_nil, Bool.and_true, h1]
theorem all_hit {l : List UInt8} {k : Nat} (hk : k < l.length) (h1 : nameSet.contains l[k] = false) : isName l = false := by
  unfold isName
  have : l.all (nameSet.contains ·) = false := by
    rw [List.all_eq_false]
    exact ⟨l[k], List.getElem_mem hk, by rw [h1]; simp⟩
  rw [this, Bool.and_false]
set_option maxRecDepth 100000 in
set_option maxHeartbeats 1000000 in
theorem RIsName_any (t : ByteArray) (ht : t.size ≤ 9223372036854775807) (w : World) :
    Calls Tryz.prog 186 #[.string t] w fun e w' => e = .returned (.bool (isName t.data.toList)) ∧ w = w' := by
  have HZ := Lib.hid (size_toList t)
  go_enter Tryz.func186, Tryz.ntmps186
  go_wp2
  go_loop [3] (fun vi => ∃ k : Nat, vi = .int .i64 k ∧ k ≤ t.size ∧ Hid ((t.data.toList.take k).all (nameSet.contains ·) = true)) (fun vi => t.size - (RowKit.intOf vi).toNat)
  case atStart => exact ⟨0, rfl, Nat.zero_le _, rfl⟩
  case round =>
    obtain ⟨k, rfl, hk, hall⟩ := hrel
    by_cases hkl : k < t.size
    · have hkl' : k < t.data.toList.length := by rw [← HZ.out]; exact hkl
      have b1 : (0 : Int) ≤ (k : Int) := by omega
      have b2 : (k : Int) < (t.size : Int) := by omega
      have hc256 := t[k].toNat_lt
      have HG : Hid (t.data.toList[k] = t[k]) := Lib.hid rfl
      by_cases h1 : 97 ≤ t[k].toNat
      · have h1i : (97 : Int) ≤ (t[k].toNat : Int) := by omega
        have h48 : (48 : Int) ≤ (t[k].toNat : Int) := by omega
        have h57 : ¬ (t[k].toNat : Int) ≤ 57 := by omega
        by_cases h2 : t[k].toNat ≤ 122
        · have h2i : (t[k].toNat : Int) ≤ (122 : Int) := by omega
          have HN : Hid ((t.data.toList.take (k + 1)).all (nameSet.contains ·) = true) := Lib.hid (all_next hkl' hall.out (by rw [HG.out]; exact nameC_yes (by omega)))
          go_wp2
          go_round
          case rel => exact ⟨k + 1, by go_num, hkl, HN⟩
          case measure => simp [RowKit.intOf]; omega
        · have h2i : ¬ (t[k].toNat : Int) ≤ (122 : Int) := by omega
          have q46 : ((t[k].toNat : Int) != 46) = true := by simp; omega
          have q45 : ((t[k].toNat : Int) != 45) = true := by simp; omega
          have HJ : Hid (isName t.data.toList = false) := Lib.hid (all_hit hkl' (by rw [HG.out]; exact nameC_no (by omega) (by omega) (by omega) (by omega)))
          go_wp2
          go_ret
          exact ⟨by rw [HJ.out]; rfl, rfl⟩
      · have h1i : ¬ (97 : Int) ≤ (t[k].toNat : Int) := by omega
        by_cases h3 : 48 ≤ t[k].toNat
        · have h3i : (48 : Int) ≤ (t[k].toNat : Int) := by omega
          by_cases h4 : t[k].toNat ≤ 57
          · have h4i : (t[k].toNat : Int) ≤ (57 : Int) := by omega
            have HN : Hid ((t.data.toList.take (k + 1)).all (nameSet.contains ·) = true) := Lib.hid (all_next hkl' hall.out (by rw [HG.out]; exact nameC_yes (by omega)))
            go_wp2
            go_round
            case rel => exact ⟨k + 1, by go_num, hkl, HN⟩
            case measure => simp [RowKit.intOf]; omega
          · have h4i : ¬ (t[k].toNat : Int) ≤ (57 : Int) := by omega
            have q46 : ((t[k].toNat : Int) != 46) = true := by simp; omega
            have q45 : ((t[k].toNat : Int) != 45) = true := by simp; omega
            have HJ : Hid (isName t.data.toList = false) := Lib.hid (all_hit hkl' (by rw [HG.out]; exact nameC_no (by omega) (by omega) (by omega) (by omega)))
            go_wp2
            go_ret
            exact ⟨by rw [HJ.out]; rfl, rfl⟩
        · have h3i : ¬ (48 : Int) ≤ (t[k].toNat : Int) := by omega
          by_cases h5 : t[k].toNat = 46
          · have h5i : ((t[k].toNat : Int) != 46) = false := by rw [h5]; rfl
            have HN : Hid ((t.data.toList.take (k + 1)).all (nameSet.contains ·) = true) := Lib.hid (all_next hkl' hall.out (by rw [HG.out]; exact nameC_yes (by omega)))
            go_wp2
            go_round
            case rel => exact ⟨k + 1, by go_num, hkl, HN⟩
            case measure => simp [RowKit.intOf]; omega
          · have h5i : ((t[k].toNat : Int) != 46) = true := by simp; omega
            by_cases h6 : t[k].toNat = 45
            · have h6i : ((t[k].toNat : Int) != 45) = false := by rw [h6]; rfl
              have HN : Hid ((t.data.toList.take (k + 1)).all (nameSet.contains ·) = true) := Lib.hid (all_next hkl' hall.out (by rw [HG.out]; exact nameC_yes (by omega)))
              go_wp2
              go_round
              case rel => exact ⟨k + 1, by go_num, hkl, HN⟩
              case measure => simp [RowKit.intOf]; omega
            · have h6i : ((t[k].toNat : Int) != 45) = true := by simp; omega
              have HJ : Hid (isName t.data.toList = false) := Lib.hid (all_hit hkl' (by rw [HG.out]; exact nameC_no (by omega) (by omega) (by omega) (by omega)))
              go_wp2
              go_ret
              exact ⟨by rw [HJ.out]; rfl, rfl⟩
    · obtain rfl : k = t.size := by omega
      have HA : Hid (t.data.toList.all (nameSet.contains ·) = true) := Lib.hid (by
        have h := hall.out
        rwa [HZ.out, List.take_of_length_le (Nat.le_refl _)] at h)
      by_cases h1 : 1 ≤ t.size
      · have h1i : (1 : Int) ≤ (t.size : Int) := by omega
        by_cases h12 : t.size ≤ 12
        · have h12i : (t.size : Int) ≤ 12 := by omega
          have HJ : Hid (isName t.data.toList = true) := Lib.hid (by unfold isName; rw [HA.out, decide_eq_true (show 1 ≤ t.data.toList.length by rw [← HZ.out]; exact h1), decide_eq_true (show t.data.toList.length ≤ 12 by rw [← HZ.out]; exact h12)]; rfl)
          go_wp2
          go_ret
          exact ⟨by rw [HJ.out]; rfl, rfl⟩
        · have h12i : ¬ (t.size : Int) ≤ 12 := by omega
          have HJ : Hid (isName t.data.toList = false) := Lib.hid (by unfold isName; rw [decide_eq_false (show ¬ t.data.toList.length ≤ 12 by rw [← HZ.out]; exact h12), Bool.and_false, Bool.false_and])
          go_wp2
          go_ret
          exact ⟨by rw [HJ.out]; rfl, rfl⟩
      · have h1i : ¬ (1 : Int) ≤ (t.size : Int) := by omega
        have HJ : Hid (isName t.data.toList = false) := Lib.hid (by unfold isName; rw [decide_eq_false (show ¬ 1 ≤ t.data.toList.length by rw [← HZ.out]; exact h1), Bool.false_and, Bool.false_and])
        go_wp2
        go_ret
        exact ⟨by rw [HJ.out]; rfl, rfl⟩
end Go.Proofs.YtpanoplcamdnkaaGreatDoor
/- Walks of the reference's cutting (PiecesOf, CutsOf) and of SameInts, SameTexts. Condition: at most 2^40 bytes. -/
namespace Go.Proofs.YtpanoplcamdnkaaGreatDoor
open Go.RowKit Go.Lib

/-- pieces found behind k bytes, a piece having begun at f -/
def Done (L : Bytes) (done : List Bytes) (f k : Nat) : Prop := done ++ pcs ((L.take k).drop f) (L.drop k) = pieces L
theorem done_hit {L : Bytes} {done : List Bytes} {f k : Nat} (h : Done L done f k) (hf : f ≤ k) (hk : k < L.length) (he : endsB ((L.take (k + 1)).drop f) = true ∨ k + 1 = L.length) :
    Done L (done ++ [(L.take (k + 1)).drop f]) (k + 1) (k + 1) := by
  unfold Done at h ⊢
  rw [← h, List.drop_eq_getElem_cons hk, pcs_cons, ← cur_succ L f k hf hk, List.append_assoc, drop_take_self]
  by_cases hb : endsB ((L.take (k + 1)).drop f) = true
  · rw [if_pos hb]; rfl
  · have hl := he.resolve_left hb
    have hd : L.drop (k + 1) = [] := List.drop_eq_nil_of_le (by omega)
    rw [if_neg hb, if_pos hd, hd]; rfl
theorem done_miss {L : Bytes} {done : List Bytes} {f k : Nat} (h : Done L done f k) (hf : f ≤ k) (hk : k + 1 < L.length) (he : endsB ((L.take (k + 1)).drop f) = false) :
    Done L done f (k + 1) := by
  have hk' : k < L.length := by omega
  unfold Done at h ⊢
  rw [← h, List.drop_eq_getElem_cons hk', pcs_cons, ← cur_succ L f k hf hk', if_neg (by rw [he]; simp), if_neg (by intro h0; have := congrArg List.length h0; simp at this; omega)]
theorem done_end {L : Bytes} {done : List Bytes} {f : Nat} (h : Done L done f L.length) : done = pieces L := by
  unfold Done at h
  rw [← h, List.drop_eq_nil_of_le (Nat.le_refl _)]; simp [pcs]
theorem done_len {L : Bytes} {done : List Bytes} {f k : Nat} (h : Done L done f k) : done.length ≤ L.length := by
  have := pieces_length_le L
  unfold Done at h
  rw [← h, List.length_append] at this
  omega
/-- the sum of the last eight bytes of a piece of sixteen bytes or more -/
theorem sum8_cur (L : Bytes) (f k : Nat) (hk : k < L.length) (hn : 16 ≤ k + 1 - f) : sum8 ((L.take (k + 1)).drop f) = (((L.drop (k - 7)).take 8).map (·.toNat)).sum := by
  unfold sum8
  rw [cur_length L f (k + 1) (by omega), List.drop_drop, show f + (k + 1 - f - 8) = k - 7 from by omega, List.drop_take, show k + 1 - (k - 7) = 8 from by omega]
def part8 (L : Bytes) (k j : Nat) : Nat := (((L.drop (k - 7)).take j).map (·.toNat)).sum
theorem part8_zero (L : Bytes) (k : Nat) : part8 L k 0 = 0 := by simp [part8]
theorem part8_succ (s : ByteArray) (k j : Nat) (h : k - 7 + j < s.size) : part8 s.data.toList k (j + 1) = part8 s.data.toList k j + s[k - 7 + j].toNat := by
  unfold part8
  have hl : j < (s.data.toList.drop (k - 7)).length := by rw [List.length_drop, ← size_toList]; omega
  rw [List.take_succ_eq_append_getElem hl, List.map_append, List.sum_append]
  simp only [List.map_cons, List.map_nil, List.sum_cons, List.sum_nil, Nat.add_zero, List.getElem_drop]
  rfl
theorem part8_step (s : ByteArray) (k m : Nat) (h1 : k - 7 ≤ m) (hm : m < s.size) : part8 s.data.toList k (m + 1 - (k - 7)) = part8 s.data.toList k (m - (k - 7)) + s[m].toNat := by
  have h := part8_succ s k (m - (k - 7)) (by omega)
  rw [show m + 1 - (k - 7) = m - (k - 7) + 1 from by omega, h]
  simp only [show k - 7 + (m - (k - 7)) = m from by omega]
theorem part8_le (L : Bytes) (k j : Nat) (hj : j ≤ 8) : part8 L k j ≤ 2040 := by
  have key : ∀ l : Bytes, (l.map (·.toNat)).sum ≤ 255 * l.length := by
    intro l
    induction l with
    | nil => simp
    | cons b l ih => have := b.toNat_lt; simp only [List.map_cons, List.sum_cons, List.length_cons]; omega
  have h1 := key ((L.drop (k - 7)).take j)
  have h2 : ((L.drop (k - 7)).take j).length ≤ j := List.length_take_le _ _
  unfold part8
  omega

theorem rel_hit {w1 : World} {base f k : Nat} {s : ByteArray} {v' : Value} {done : List Bytes} (h : w1.ownsRow base 9 1 v' (done.length + 1) (done.map VS ++ [.string (s.extract f (k + 1))])) :
    w1.ownsRow base 9 1 v' (done ++ [(s.data.toList.take (k + 1)).drop f]).length ((done ++ [(s.data.toList.take (k + 1)).drop f]).map VS) := by
  rw [List.length_append, List.map_append, List.map_cons, List.map_nil, VS, ← extract_bs]; exact h

set_option maxRecDepth 100000 in
set_option maxHeartbeats 4000000 in
theorem PiecesOf_any (s : ByteArray) (hs : s.size ≤ 2 ^ 40) (w : World) :
    Calls Tryz.prog 149 #[.string s] w fun e W' => ∃ v, e = .returned v ∧ W'.ownsRow w.heap.size 9 1 v (pieces s.data.toList).length ((pieces s.data.toList).map VS) ∧ Below w.heap.size w W' := by
  obtain ⟨i0, hi, hz0, hz1, hz2⟩ := info_parts info_string
  have HZ := Lib.hid (size_toList s)
  go_enter Tryz.func149, Tryz.ntmps149
  go_wp2
  go_loopw [3, 4, 5] (fun vo vf vi wr => ∃ (f k : Nat) (done : List Bytes), vf = .int .i64 f ∧ vi = .int .i64 k ∧ f ≤ k ∧ k ≤ s.size ∧ k - f < 64 ∧ Hid (Done s.data.toList done f k) ∧ wr.ownsRow w.heap.size 9 1 vo done.length (done.map VS) ∧ Below w.heap.size w wr)
    (fun _ _ vi _ => s.size - (RowKit.intOf vi).toNat)
  case atStart => exact ⟨0, 0, [], rfl, rfl, Nat.le_refl _, Nat.zero_le _, by omega, rfl, World.ownsRow_nil _ _ _ _, Below.refl _ _⟩
  case round =>
    obtain ⟨f, k, done, rfl, rfl, hfk, hk, h64, hd, hrow, hB⟩ := hrel
    by_cases hlt : k < s.size
    · by_cases hn : k + 1 - f < 16
      · have hb : endsB ((s.data.toList.take (k + 1)).drop f) = false := by
          unfold endsB; rw [cur_length _ _ _ (by rw [← HZ.out]; omega), if_neg (by omega), if_pos hn]
        have HB := Lib.hid hb
        clear hb
        have hlen := done_len hd.out
        rw [← HZ.out] at hlen
        by_cases hl : k + 1 = s.size
        · have HD := Lib.hid (done_hit hd.out hfk (by rw [← HZ.out]; exact hlt) (.inr (by rw [← HZ.out]; exact hl)))
          have HL := Lib.hid hl
          have hl1 : (k : Int) = (s.size : Int) - 1 := by omega
          have HL1 := Lib.hid (beq_iff_eq.2 hl1)
          have hl2 : ((k : Int) == (s.size : Int) - 1) = true := HL1.out
          clear hl hl1 HL1
          go_wp2
          refine wp_loop_rounds 1 ?_
          rw [rounds_succ]
          go_wp2_with (at_builtin; refine wpList_append_own _ rfl _ _ 27 rfl w.heap.size 9 i0 (.string ByteArray.empty) 1 16 Tryz.underlying27 hi hz0 hz1 hz2 rfl (by decide) _ _ _ rfl (hrow.alloc _) ⟨wr.heap.size, 0, none⟩ 1 1 [.string (s.extract f (k + 1))] rfl rfl (cell_one_new _ _ _) (by simp [Value.oneCell']) (by unfold maxLen; omega) (by omega) (by have := hB.size; simp; omega) ?_; intro v' w1 hown' hgrow _)
          go_roundw
          case rel => exact ⟨k + 1, k + 1, _, by go_num, by go_num, Nat.le_refl _, by omega, by omega, HD, rel_hit hown', below_append hB hB.size hrow hgrow⟩
          case measure => simp [RowKit.intOf]; omega
        · have HD := Lib.hid (done_miss hd.out hfk (by rw [← HZ.out]; omega) HB.out)
          have hl2 : ((k : Int) == (s.size : Int) - 1) = false := by rw [beq_eq_false_iff_ne]; omega
          go_wp2
          refine wp_loop_rounds 1 ?_
          rw [rounds_succ]
          go_wp2
          go_roundw
          case rel => exact ⟨f, k + 1, done, rfl, by go_num, by omega, by omega, by omega, HD, hrow, hB⟩
          case measure => simp [RowKit.intOf]; omega
      · have hlen := done_len hd.out
        rw [← HZ.out] at hlen
        go_wp2
        have hS8 := sum8_cur s.data.toList f k (by rw [← HZ.out]; exact hlt) (by omega)
        obtain ⟨wo, rfl⟩ : ∃ wo : World, wo = wr := ⟨_, rfl⟩
        go_loopw [7, 8] (fun vs vk wx => ∃ m : Nat, k - 7 ≤ m ∧ m ≤ k + 1 ∧ vs = .int .i64 (part8 s.data.toList k (m - (k - 7))) ∧ vk = .int .i64 m ∧ wx = wo) (fun _ vk _ => (k + 1 - (RowKit.intOf vk)).toNat)
        case atStart => exact ⟨k - 7, Nat.le_refl _, by omega, by rw [Nat.sub_self, part8_zero]; rfl, by congr 1; omega, rfl⟩
        case round =>
          obtain ⟨m, hm1, hm2, rfl, rfl, rfl⟩ := hrel
          have hp8 := part8_le s.data.toList k (m - (k - 7)) (by omega)
          by_cases hm : m ≤ k
          · have HP := Lib.hid (part8_step s k m hm1 (by omega))
            have hb := (s[m]'(by omega)).toNat_lt
            go_wp2
            go_roundw
            case rel => exact ⟨m + 1, by omega, by omega, by rw [HP.out, Int.natCast_add], by go_num, trivial⟩
            case measure => simp [RowKit.intOf]; omega
          · obtain rfl : m = k + 1 := by omega
            have hE : endsB ((s.data.toList.take (k + 1)).drop f) = if 64 ≤ k + 1 - f then true else part8 s.data.toList k (k + 1 - (k - 7)) % 16 == 15 := by
              unfold endsB
              rw [cur_length _ _ _ (by rw [← HZ.out]; omega), hS8, show k + 1 - (k - 7) = 8 from by omega]
              by_cases h : 64 ≤ k + 1 - f
              · rw [if_pos h, if_pos h]
              · rw [if_neg h, if_neg h, if_neg hn]; rfl
            clear hS8
            generalize part8 s.data.toList k (k + 1 - (k - 7)) = S at *
            have HE := Lib.hid hE
            clear hE
            by_cases h64' : k + 1 - f = 64
            · have HD := Lib.hid (done_hit hd.out hfk (by rw [← HZ.out]; exact hlt) (.inl (by rw [HE.out, if_pos (by omega)])))
              have q1 : ((k : Int) + 1 - f == 64) = true := by rw [beq_iff_eq]; omega
              have H6 := Lib.hid h64'
              clear h64'
              go_wp2_with (at_builtin; refine wpList_append_own _ rfl _ _ 27 rfl w.heap.size 9 i0 (.string ByteArray.empty) 1 16 Tryz.underlying27 hi hz0 hz1 hz2 rfl (by decide) _ _ _ rfl (hrow.alloc _) ⟨wr.heap.size, 0, none⟩ 1 1 [.string (s.extract f (k + 1))] rfl rfl (cell_one_new _ _ _) (by simp [Value.oneCell']) (by unfold maxLen; omega) (by omega) (by have := hB.size; simp; omega) ?_; intro v' w1 hown' hgrow _)
              go_roundw
              case rel => exact ⟨k + 1, k + 1, _, by go_num, by go_num, Nat.le_refl _, by omega, by omega, HD, rel_hit hown', below_append hB hB.size hrow hgrow⟩
              case measure => simp [RowKit.intOf]; omega
            · have q1 : ((k : Int) + 1 - f == 64) = false := by rw [beq_eq_false_iff_ne]; omega
              by_cases h15 : S % 16 = 15
              · have HD := Lib.hid (done_hit hd.out hfk (by rw [← HZ.out]; exact hlt) (.inl (by rw [HE.out, if_neg (by omega), h15]; rfl)))
                have q2 : ((S : Int) % 16 == 15) = true := by rw [beq_iff_eq]; omega
                have H5 := Lib.hid h15
                clear h15
                go_wp2_with (at_builtin; refine wpList_append_own _ rfl _ _ 27 rfl w.heap.size 9 i0 (.string ByteArray.empty) 1 16 Tryz.underlying27 hi hz0 hz1 hz2 rfl (by decide) _ _ _ rfl (hrow.alloc _) ⟨wr.heap.size, 0, none⟩ 1 1 [.string (s.extract f (k + 1))] rfl rfl (cell_one_new _ _ _) (by simp [Value.oneCell']) (by unfold maxLen; omega) (by omega) (by have := hB.size; simp; omega) ?_; intro v' w1 hown' hgrow _)
                go_roundw
                case rel => exact ⟨k + 1, k + 1, _, by go_num, by go_num, Nat.le_refl _, by omega, by omega, HD, rel_hit hown', below_append hB hB.size hrow hgrow⟩
                case measure => simp [RowKit.intOf]; omega
              · have q2 : ((S : Int) % 16 == 15) = false := by rw [beq_eq_false_iff_ne]; omega
                by_cases hl : k + 1 = s.size
                · have HD := Lib.hid (done_hit hd.out hfk (by rw [← HZ.out]; exact hlt) (.inr (by rw [← HZ.out]; exact hl)))
                  have HL := Lib.hid hl
                  have hl2 : ((k : Int) == (s.size : Int) - 1) = true := by rw [beq_iff_eq]; omega
                  clear hl
                  go_wp2_with (at_builtin; refine wpList_append_own _ rfl _ _ 27 rfl w.heap.size 9 i0 (.string ByteArray.empty) 1 16 Tryz.underlying27 hi hz0 hz1 hz2 rfl (by decide) _ _ _ rfl (hrow.alloc _) ⟨wr.heap.size, 0, none⟩ 1 1 [.string (s.extract f (k + 1))] rfl rfl (cell_one_new _ _ _) (by simp [Value.oneCell']) (by unfold maxLen; omega) (by omega) (by have := hB.size; simp; omega) ?_; intro v' w1 hown' hgrow _)
                  go_roundw
                  case rel => exact ⟨k + 1, k + 1, _, by go_num, by go_num, Nat.le_refl _, by omega, by omega, HD, rel_hit hown', below_append hB hB.size hrow hgrow⟩
                  case measure => simp [RowKit.intOf]; omega
                · have HD := Lib.hid (done_miss hd.out hfk (by rw [← HZ.out]; omega) (by rw [HE.out, if_neg (by omega)]; simp [h15]))
                  have hl2 : ((k : Int) == (s.size : Int) - 1) = false := by rw [beq_eq_false_iff_ne]; omega
                  go_wp2
                  go_roundw
                  case rel => exact ⟨f, k + 1, done, rfl, by go_num, by omega, by omega, by omega, HD, hrow, hB⟩
                  case measure => simp [RowKit.intOf]; omega
    · obtain rfl : k = s.size := by omega
      have hf := done_end (by rw [← HZ.out]; exact hd.out)
      have HF := Lib.hid hf
      clear hf
      go_wp2
      go_ret
      exact ⟨_, rfl, by rw [← HF.out]; exact hrow, hB⟩
end Go.Proofs.YtpanoplcamdnkaaGreatDoor
/- Walk of the reference's RecipeOf. Conditions: as named. -/
namespace Go.Proofs.YtpanoplcamdnkaaGreatDoor
open Go.RowKit Go.Lib

set_option maxRecDepth 100000 in
set_option maxHeartbeats 1000000 in
theorem RRecipeOf_ok (n s : ByteArray) (hn : n.size ≤ maxLen) (hN : isName n.data.toList = true) (hs : s.size ≤ 4000) (w : World) :
    Calls Tryz.prog 147 #[.string n, .string s] w fun e w' => ∃ v, e = .returned (.tuple #[v, .int .i64 0]) ∧ RcpW w' w.heap.size w'.heap.size v (rcpOf n.data.toList s.data.toList) ∧ Below w.heap.size w w' := by
  obtain ⟨i0, hi, hz0, hz1, hz2⟩ := info_parts info_idI
  have b1 : ¬ (s.size : Int) > 4000 := by omega
  have HL : Hid ((pieces s.data.toList).length ≤ 4000) := Lib.hid (by have := pieces_length_le s.data.toList; have := size_toList s; omega)
  have HS := Lib.hid (size_toList s)
  have HNN := Lib.hid hN
  clear hN
  go_enter Tryz.func147, Tryz.ntmps147
  go_wp2_with fail
  refine (RIsName_any n hn _).mono ?_
  rintro e w1 ⟨rfl, rfl⟩
  rw [HNN.out]
  go_wp2_with fail
  refine (PiecesOf_any s (by omega) _).mono ?_
  rintro e w1 ⟨v1, rfl, ho1, hb1⟩
  have hw0 : Box4 w.heap.size (.string ⟨#[]⟩) (.int .i64 0) (.int .u32 0) (.slice none 0 0) (w.alloc (.cells #[.string ⟨#[]⟩, .int .i64 0, .int .u32 0, .slice none 0 0] 65)) := Box4.mk' _ _ _ _ _ _
  have hbb : Below w.heap.size w w1 := ((Below.refl _ w).alloc (Nat.le_refl _) _).trans (hb1.mono (by simp))
  have hbx := hw0.below hb1 (by simp)
  obtain ⟨A1, c1, rfl, hc1, hrd⟩ := own_rdI ho1
  have HRD := Lib.hid hrd
  have HBB := Lib.hid hbb
  have hsz : w.heap.size < w1.heap.size := by have := hb1.size; simp at this; omega
  generalize hps : pieces s.data.toList = ps at *
  have hl := HL.out
  clear hrd hbb hw0 ho1 hb1
  go_wp2
  go_loopg [7, 9] ps.length (fun gh vs vi wr => ∃ k : Nat, vi = .int .i64 k ∧ k ≤ ps.length ∧ gh = ps.length - k ∧ wr.ownsRow w1.heap.size 47 2 vs k (idRow ((ps.take k).map idOf)) ∧ Below w1.heap.size w1 wr)
  case atStart => exact ⟨0, rfl, Nat.zero_le _, rfl, World.ownsRow_nil _ _ _ _, Below.refl _ _⟩
  case round =>
    obtain ⟨k, rfl, hk, hgm, hrow, hB⟩ := hrel
    by_cases hkl : k < ps.length
    · obtain ⟨g, rfl, hg1, hg2, hcell⟩ := HRD.out (by omega)
      have hd1 : w1.cell? ⟨g, k, none⟩ = some (.string (bs ps[k])) := hcell k _ (by simp [hkl])
      have d1 : wr.cell? ⟨g, k, none⟩ = some (.string (bs ps[k])) := (hB.cell (p := ⟨g, k, none⟩) hg2).trans hd1
      have b1 : (0 : Int) ≤ (k : Int) := by omega
      have b2 : (k : Int) < (ps.length : Int) := by omega
      have HT := Lib.hid (idsTake hkl)
      have hpz : (bs ps[k]).size ≤ 4000 := by
        rw [bs_size]
        have hm : ps[k] ∈ pieces s.data.toList := by rw [hps]; exact List.getElem_mem hkl
        have := pieces_max _ _ hm
        omega
      have HBT := Lib.hid (bs_toList ps[k])
      have HBZ := Lib.hid (bs_size ps[k])
      clear hd1 hcell
      go_wp2_with fail
      refine (IDOf_any (bs ps[k]) _ (by unfold maxLen; omega)).mono ?_
      rintro e w2 ⟨rfl, hb2⟩
      have ho2 := own_belowI hrow hb2
      have hB2 := hB.trans (hb2.mono hB.size)
      rw [HBT.out, HBZ.out]
      go_wp2_with (at_builtin; refine wpList_append_own _ rfl _ _ 44 rfl w1.heap.size 47 i0 (.agg #[.int .u32 0, .int .i64 0]) 2 16 Tryz.underlying44 hi hz0 hz1 hz2 rfl (by decide) _ _ _ rfl (own_belowI (own_belowI ho2 ((Below.refl _ _).alloc (Nat.le_refl _) _)) ((Below.refl _ _).alloc (Nat.le_refl _) _)) ⟨w2.heap.size + 1, 0, none⟩ 1 1 [.int .u32 ((prOf ps[k] : Nat) : Int), .int .i64 (ps[k].length : Int)] rfl rfl (by have := cell_newI (w2.alloc (.cells #[.int .u32 ((prOf ps[k] : Nat) : Int), .int .i64 (ps[k].length : Int)] 47)) (.int .u32 ((prOf ps[k] : Nat) : Int)) (.int .i64 (ps[k].length : Int)) 47; simpa using this) (by simp [Value.oneCell']) (by unfold maxLen; omega) (by omega) (by have := hB2.size; simp; omega) ?_; intro v5 w5 ho5 hg5 _)
      go_roundg (ps.length - (k + 1))
      case measure => omega
      case rel => exact ⟨k + 1, by go_num, hkl, rfl, by rw [HT.out]; exact ho5, (((hB2.alloc hB2.size _).alloc (by have := hB2.size; simp; omega) _)).grown hg5 (by have := hB2.size; simp; omega) (fun b he => own_ge ho2 he)⟩
    · obtain rfl : k = ps.length := by omega
      have hbxr := hbx.below hB hsz
      have HBX := Lib.hid hbxr
      obtain ⟨c0, c1x, c2, c3, hfz⟩ := hbxr
      have f0 := hfz 0
      have f1 := hfz 1
      have f2 := hfz 2
      have f3 := hfz 3
      obtain ⟨A, c, rfl⟩ := own_formI hrow
      obtain ⟨d0, d1, d2, d3, _⟩ := HBX.out.set (.string n) (.int .i64 (s.size : Int)) (.int .u32 ((prOf s.data.toList : Nat) : Int)) (.slice A ps.length c)
      have HP : Hid (RcpW ((((wr.setCell ⟨w.heap.size, 0, none⟩ (.string n)).setCell ⟨w.heap.size, 1, none⟩ (.int .i64 (s.size : Int))).setCell ⟨w.heap.size, 2, none⟩ (.int .u32 ((prOf s.data.toList : Nat) : Int))).setCell ⟨w.heap.size, 3, none⟩ (.slice A ps.length c)) w.heap.size ((((wr.setCell ⟨w.heap.size, 0, none⟩ (.string n)).setCell ⟨w.heap.size, 1, none⟩ (.int .i64 (s.size : Int))).setCell ⟨w.heap.size, 2, none⟩ (.int .u32 ((prOf s.data.toList : Nat) : Int))).setCell ⟨w.heap.size, 3, none⟩ (.slice A ps.length c)).heap.size
          (.agg #[.string n, .int .i64 (s.size : Int), .int .u32 ((prOf s.data.toList : Nat) : Int), .slice A ps.length c]) (rcpOf n.data.toList s.data.toList)) := Lib.hid (by
        rw [List.take_of_length_le (Nat.le_refl _)] at hrow
        have e1 : (rcpOf n.data.toList s.data.toList).ids = ps.map idOf := by show idsOf _ = _; unfold idsOf; rw [hps]
        refine ⟨_, ?_, by rw [e1]; exact (RdB.own (own_set4 hrow hsz _ _ _ _) (by rw [List.length_map])).wide (by omega) (Nat.le_refl _)⟩
        rw [show VT (rcpOf n.data.toList s.data.toList).name = .string n by show Value.string (bs n.data.toList) = _; rw [bs_of]]
        rw [show (rcpOf n.data.toList s.data.toList).len = (s.size : Int) by rw [HS.out]; rfl]
        rfl)
      have HB9 := Lib.hid (below_set4 (HBB.out.trans (hB.mono (Nat.le_of_lt hsz))) (Nat.le_refl _) (.string n) (.int .i64 (s.size : Int)) (.int .u32 ((prOf s.data.toList : Nat) : Int)) (.slice A ps.length c))
      clear hfz hrow
      go_wp2_with fail
      refine (PrintOf_any s _ (by unfold maxLen; omega)).mono ?_
      rintro e w2 ⟨rfl, rfl⟩
      go_wp2
      refine bodyPost_ret (v := .tuple #[.agg #[.string n, .int .i64 (s.size : Int), .int .u32 ((prOf s.data.toList : Nat) : Int), .slice A ps.length c], .int .i64 0]) (by simp [results, Tryz.results147, go_sem, d0, d1, d2, d3]) rfl ?_
      exact ⟨_, rfl, HP.out, HB9.out⟩
set_option maxRecDepth 100000 in
theorem RRecipeOf_at (n s : ByteArray) (hn : n.size ≤ maxLen) (w : World) :
    Calls Tryz.prog 147 #[.string n, .string s] w fun e w' => ∃ v, e = .returned (.tuple #[v, .int .i64 (ofRes n.data.toList s.data.toList).1]) ∧ RcpW w' w.heap.size w'.heap.size v (ofRes n.data.toList s.data.toList).2 ∧ Below w.heap.size w w' := by
  have hz := size_toList s
  have hb0 : Below w.heap.size w (w.alloc (.cells #[.string ⟨#[]⟩, .int .i64 0, .int .u32 0, .slice none 0 0] 65)) := (Below.refl _ w).alloc (Nat.le_refl _) _
  cases hN : isName n.data.toList with
  | false =>
    have HE : Hid (ofRes n.data.toList s.data.toList = (4, rcpZero)) := Lib.hid (if_pos hN)
    have HN := Lib.hid hN
    clear hN hz
    go_enter Tryz.func147, Tryz.ntmps147
    go_wp2_with fail
    refine (RIsName_any n hn _).mono ?_
    rintro e w1 ⟨rfl, rfl⟩
    rw [HN.out]
    go_wp2
    refine bodyPost_ret (v := .tuple #[zeroV, .int .i64 4]) (by simp [results, Tryz.results147, go_sem, zeroV]) rfl ?_
    exact ⟨zeroV, by rw [HE.out], by rw [HE.out]; exact RcpW.zero _ _ _, hb0⟩
  | true =>
    by_cases h4 : s.size ≤ 4000
    · have e1 : ofRes n.data.toList s.data.toList = (0, rcpOf n.data.toList s.data.toList) := by unfold ofRes; rw [if_neg (by rw [hN]; simp), if_neg (by omega)]
      rw [e1]
      exact RRecipeOf_ok n s hn hN h4 w
    · have h4i : (s.size : Int) > 4000 := by omega
      have HE : Hid (ofRes n.data.toList s.data.toList = (2, rcpZero)) := Lib.hid (by unfold ofRes; rw [if_neg (by rw [hN]; simp), if_pos (by omega)])
      have HN := Lib.hid hN
      clear hN hz h4
      go_enter Tryz.func147, Tryz.ntmps147
      go_wp2_with fail
      refine (RIsName_any n hn _).mono ?_
      rintro e w1 ⟨rfl, rfl⟩
      rw [HN.out]
      go_wp2
      refine bodyPost_ret (v := .tuple #[zeroV, .int .i64 2]) (by simp [results, Tryz.results147, go_sem, zeroV]) rfl ?_
      exact ⟨zeroV, by rw [HE.out], by rw [HE.out]; exact RcpW.zero _ _ _, hb0⟩
end Go.Proofs.YtpanoplcamdnkaaGreatDoor
/- The reference's Node: walk of Put. No conditions but bounds. -/
namespace Go.Proofs.YtpanoplcamdnkaaGreatDoor
open Go.RowKit Go.Lib Go.Maps

set_option maxRecDepth 100000 in
set_option maxHeartbeats 1000000 in
theorem RNPut_early (n : Nat) (vf vb : Value) (E : REL) (G : List RBE) (nm s : Bytes) (hn : nm.length ≤ maxLen) (w : World) (h : ORN n vf vb E G w) (c : Int) (hc : c > 0) (he : (ofRes nm s).1 = c) (hp : putN nm s (plainR E G) = (plainR E G, 0, c)) :
    Calls Tryz.prog 95 #[.pointer (some ⟨n, 0, none⟩), VT nm, VT s] w (RPutTo n vf vb nm s E G w) := by
  have HP : Hid (∀ w', Below w.heap.size w w' → RPutTo n vf vb nm s E G w (.returned (.tuple #[.int .i64 0, .int .i64 c])) w') := Lib.hid (fun w' hb => ⟨by rw [hp], by rw [hp]; exact RNTo.stay h hb⟩)
  have OF := Lib.hid (RRecipeOf_at (bs nm) (bs s) (by rw [bs_size]; exact hn) w)
  rw [bs_toList, bs_toList, he] at OF
  clear h hp he
  go_enter Tryz.func95, Tryz.ntmps95
  go_wp2_with fail
  refine OF.out.mono ?_
  rintro e w1 ⟨v, rfl, hv, hb1⟩
  obtain ⟨sl, rfl, hrd⟩ := hv
  obtain ⟨A, k, hsl, _⟩ := hrd
  subst hsl
  have HB1 := Lib.hid hb1
  clear hb1
  go_wp2
  refine bodyPost_ret (v := .tuple #[.int .i64 0, .int .i64 c]) (by simp [results, Tryz.results95, go_sem]) rfl ?_
  exact HP.out _ (HB1.out.alloc HB1.out.size _)
theorem box4_blk {d : Nat} {x y z u : Value} {w w' : World} (h : Box4 d x y z u w) (hb : w'.heap[d]? = w.heap[d]?) : Box4 d x y z u w' :=
  ⟨(World.cell?_of_block (a := ⟨d, 0, none⟩) hb).trans h.c0, (World.cell?_of_block (a := ⟨d, 1, none⟩) hb).trans h.c1, (World.cell?_of_block (a := ⟨d, 2, none⟩) hb).trans h.c2, (World.cell?_of_block (a := ⟨d, 3, none⟩) hb).trans h.c3, fun i => (World.frozen?_of_block (a := ⟨d, i, none⟩) hb).trans (h.f i)⟩
theorem box2_blk {d : Nat} {x y : Value} {w w' : World} (h : Box2 d x y w) (hb : w'.heap[d]? = w.heap[d]?) : Box2 d x y w' :=
  ⟨(World.cell?_of_block (a := ⟨d, 0, none⟩) hb).trans h.c0, (World.cell?_of_block (a := ⟨d, 1, none⟩) hb).trans h.c1, (World.frozen?_of_block (a := ⟨d, 0, none⟩) hb).trans h.f0, (World.frozen?_of_block (a := ⟨d, 1, none⟩) hb).trans h.f1⟩
theorem own_frame {b base n size : Nat} {e : TypeId} {v v0 : Value} {xs : List Value} {w w' : World} (h : w.ownsRow base e size v n xs) (hb : b < base) (hv : ∀ k, v0.ownBlock = some k → k < base) (hf : BFrame b v0 w w') : w'.ownsRow base e size v n xs := by
  refine ⟨h.1, ?_⟩
  rcases h.2 with h3 | ⟨g, cap, cur, hvg, hg, hh, h4⟩
  · exact .inl h3
  · exact .inr ⟨g, cap, cur, hvg, hg, (hf.block g (Array.getElem?_eq_some_iff.1 hh).1 (by omega) (fun e => by have := hv g e; omega)).trans hh, h4⟩
theorem own_str {w : World} {base c : Nat} {ps : List Bytes} {A : Option Addr} (h : w.ownsRow base 9 1 (.slice A ps.length c) ps.length (ps.map VT)) {k : Nat} (hk : k < ps.length) : ∃ g, A = some ⟨g, 0, none⟩ ∧ w.cell? ⟨g, k, none⟩ = some (VT ps[k]) := by
  rcases h.2 with ⟨hv, h0⟩ | ⟨g, cap, cur, hv, _, hh, _⟩
  · omega
  · injection hv with hA _ hc
    subst hA; subst hc
    refine ⟨g, rfl, ?_⟩
    rw [h.cellAt k (by omega), List.getElem?_map, List.getElem?_eq_getElem hk]; rfl
theorem rput_errG {n : Nat} {vf vb : Value} {nm s : Bytes} {E : REL} {G : List RBE} {w w' : World} {cd : Int} (h : ORN n vf vb E G w) (e : putN nm s (plainR E G) = (plainR E G, 0, cd)) (hb : Below w.heap.size w w') : RPutTo n vf vb nm s E G w (.returned (.tuple #[.int .i64 0, .int .i64 cd])) w' :=
  ⟨by rw [e], by rw [e]; exact RNTo.stay h hb⟩
theorem zero_bin (w : World) : RBin w.heap.size 0 (.slice none 0 0) [] (w.alloc (.cells #[.slice none 0 0] 174)) := ⟨heap_alloc_new w _, World.ownsRow_nil _ _ _ _, fun _ e => by cases e⟩
theorem RdB.own_in {w : World} {lo hi k : Nat} {v : Value} {L : IdL} (h : RdB w lo hi v L) (e : v.ownBlock = some k) (ne : L ≠ []) : lo ≤ k ∧ k < hi := by
  obtain ⟨A, c, hv, _, hx⟩ := h
  obtain ⟨g, o, hA, h1, h2, _⟩ := hx (List.length_pos_iff.2 ne)
  rw [hv, hA] at e
  injection e with e
  subst e
  exact ⟨h1, h2⟩
set_option maxRecDepth 100000 in
set_option maxHeartbeats 4000000 in
theorem RNPut_main (n : Nat) (vf vb : Value) (E : REL) (G : List RBE) (hP : NodeOk (plainR E G)) (nm s : Bytes) (hn : nm.length ≤ maxLen) (hi : isName nm = true) (h4 : s.length ≤ 4000) (w : World) (h : ORN n vf vb E G w) :
    Calls Tryz.prog 95 #[.pointer (some ⟨n, 0, none⟩), VT nm, VT s] w (RPutTo n vf vb nm s E G w) := by
  have hE30 : E.length ≤ 30 := by have := hP.flen; rw [plainR_eq, List.length_map] at this; exact this
  have hG30 : G.length ≤ 30 := by have := hP.blen; rw [plainR_eq, List.length_map, List.length_map] at this; omega
  have hPL : (pieces s).length ≤ 4000 := by have := pieces_length_le s; omega
  have HPL := Lib.hid hPL
  have OF := Lib.hid (RRecipeOf_at (bs nm) (bs s) (by rw [bs_size]; exact hn) w)
  have hof : ofRes nm s = (0, rcpOf nm s) := by unfold ofRes; rw [if_neg (by rw [hi]; simp), if_neg (by omega)]
  rw [bs_toList, bs_toList, hof] at OF
  have OP := Lib.hid (PiecesOf_any (bs s) (by rw [bs_size]; omega))
  rw [bs_toList] at OP
  have HMX : Hid (∀ p ∈ pieces s, p.length ≤ 64) := Lib.hid (fun p hp => pieces_max s p hp)
  have HTB := Lib.hid (hP.theBin (repOf (idsOf s)))
  have HFS : Hid (AlSrt bytesBefore (E.map fxE)) := Lib.hid hP.fsrt
  have HGS : Hid (AlSrt lesser (G.map prG)) := Lib.hid hP.bsrt
  have HIL := Lib.hid (idsOf_le h4)
  have HM0 := Lib.hid (fun hg hf L hL => putN_main' (s := s) (nm := nm) (P := plainR E G) (L := L) hi h4 hg hf hL)
  have HHAS := Lib.hid (fun r hg => pN_has (s := s) (nm := nm) (P := plainR E G) (r := r) hi h4 hg)
  have HFUL := Lib.hid (fun hg hf => pN_full (s := s) (nm := nm) (P := plainR E G) hi h4 hg hf)
  have HN := Lib.hid h
  have hnl := h.nlt
  obtain ⟨A, c, hvf, hcap, _⟩ := h.vff
  subst hvf
  obtain ⟨BA, bc, hvb, hbcap, hbx⟩ := h.vbf
  subst hvb
  have HBX := Lib.hid hbx
  obtain ⟨r, hr⟩ : ∃ r, r = rcpOf nm s := ⟨_, rfl⟩
  have hrn : r.name = nm := by rw [hr]; rfl
  have hri : r.ids = idsOf s := by rw [hr]; rfl
  obtain ⟨rep, hrep⟩ : ∃ x, x = repOf (idsOf s) := ⟨_, rfl⟩
  obtain ⟨ps, hps⟩ : ∃ x, x = pieces s := ⟨_, rfl⟩
  have HRN := Lib.hid hrn
  have HRE : Hid (repOf r.ids = rep) := Lib.hid (by rw [hri, hrep])
  have HRI : Hid (r.ids.length ≤ 1000000) := Lib.hid (by rw [hri]; have := HIL.out; omega)
  rw [← hr] at OF
  rw [← hps] at OP HMX HPL
  rw [← hrep] at HTB
  rw [← hr, ← hps, ← hrep] at HM0
  clear hof hr hri hrn hps hrep hP h hbx hPL
  go_enter Tryz.func95, Tryz.ntmps95
  go_wp2_with fail
  refine OF.out.mono ?_
  rintro e w1 ⟨v, rfl, hv, hb1⟩
  obtain ⟨sl, rfl, hrd⟩ := hv
  have HRD := Lib.hid hrd
  obtain ⟨SA, sc, hsl, _⟩ := hrd
  subst hsl
  have HSB : Hid (∀ k, (Value.slice SA r.ids.length sc).ownBlock = some k → r.ids ≠ [] → w.heap.size ≤ k ∧ k < w1.heap.size) := Lib.hid (fun k e ne => HRD.out.own_in e ne)
  have HAP : Hid (∀ k, (Value.slice SA r.ids.length sc).ownBlock = some k → r.ids ≠ [] → k ∉ blkN n (.slice BA G.length bc) G) := Lib.hid (fun k e ne hm => by have := HN.out.blk_lt hm; have := HSB.out k e ne; omega)
  have hb12 : Below w1.heap.size w1 (w1.alloc (.cells #[VT r.name, .int .i64 r.len, .int .u32 (r.print : Int), .slice SA r.ids.length sc] 65)) := (Below.refl _ _).alloc (Nat.le_refl _) _
  have HB12 := Lib.hid hb12
  have HB2 := Lib.hid (hb1.trans (hb12.mono hb1.size))
  have HM1 := Lib.hid hb1.size
  have HX42 := Lib.hid (Box4.mk' w1 (VT r.name) (.int .i64 r.len) (.int .u32 (r.print : Int)) (.slice SA r.ids.length sc) 65)
  have HFIND := Lib.hid (RNFind_raw n _ _ E G (by omega) nm _ (HN.out.below HB2.out))
  have c0 := (HB2.out.cell (p := ⟨n, 0, none⟩) hnl).trans HN.out.c0
  obtain ⟨a0, a1, a2, a3, _⟩ := HX42.out
  clear hb1 hb12
  go_wp2_with fail
  refine HFIND.out.mono ?_
  rintro e w3 ⟨rfl, rfl⟩
  rcases ixP_cases (fun x : Rcp × Value => decide (x.1.name = nm)) E with ⟨hix, hno⟩ | ⟨k, hk, hix, hy⟩
  rotate_left
  · rw [hix]
    have hge : ((k : Nat) : Int) ≥ 0 := by omega
    have HP := Lib.hid (HHAS.out _ (getE_some HFS.out hk (of_decide_eq_true hy)))
    clear hix hy
    go_wp2
    refine bodyPost_ret (v := .tuple #[.int .i64 0, .int .i64 6]) (by simp [results, Tryz.results95, go_sem]) rfl ?_
    exact ⟨by rw [HP.out], by rw [HP.out]; exact RNTo.stay HN.out HB2.out⟩
  · rw [hix]
    have HNO0 : Hid (∀ j (hj : j < E.length), E[j].1.name ≠ nm) := Lib.hid (fun j hj => of_decide_eq_false (hno j hj))
    have HG0 := Lib.hid (getE_none HNO0.out)
    clear hix hno HHAS
    by_cases h30 : 30 ≤ E.length
    · have h30i : (E.length : Int) ≥ 30 := by omega
      have HP := Lib.hid (HFUL.out HG0.out (by rw [plainR_eq, List.length_map]; exact h30))
      go_wp2
      refine bodyPost_ret (v := .tuple #[.int .i64 0, .int .i64 7]) (by simp [results, Tryz.results95, go_sem]) rfl ?_
      exact ⟨by rw [HP.out], by rw [HP.out]; exact RNTo.stay HN.out HB2.out⟩
    · have h30i : ¬ (E.length : Int) ≥ 30 := by omega
      have HNO : Hid (∀ j (hj : j < E.length), E[j].1.name ≠ r.name) := Lib.hid (by rw [HRN.out]; exact HNO0.out)
      have HM1' := Lib.hid (HM0.out HG0.out (by rw [plainR_eq, List.length_map]; omega))
      have HREP := Lib.hid (RRepOf_any (.agg #[VT r.name, .int .i64 r.len, .int .u32 (r.print : Int), .slice SA r.ids.length sc]) r HRI.out (w1.alloc (.cells #[VT r.name, .int .i64 r.len, .int .u32 (r.print : Int), .slice SA r.ids.length sc] 65)) ⟨_, rfl, (HRD.out.rd.keep HB12.out (Nat.le_refl _)).more HB12.out.size⟩)
      rw [HRE.out] at HREP
      clear HM0 HFUL h30 HNO0
      generalize w1.alloc (.cells #[VT r.name, .int .i64 r.len, .int .u32 (r.print : Int), .slice SA r.ids.length sc] 65) = w2 at *
      go_wp2_with fail
      refine HREP.out.mono ?_
      rintro e w4 ⟨rfl, hb4⟩
      have HB4 := Lib.hid (HB2.out.trans (hb4.mono HB2.out.size))
      have hb5 : Below w4.heap.size w4 ((w4.alloc (.cells #[.int .u32 (rep.1 : Int), .int .i64 rep.2] 47)).alloc (.cells #[.slice none 0 0] 174)) := ((Below.refl _ _).alloc (Nat.le_refl _) _).alloc (by simp) _
      have HB5 := Lib.hid (HB4.out.trans (hb5.mono HB4.out.size))
      have HX25 := Lib.hid ((Box2.mk' w4 (.int .u32 (rep.1 : Int)) (.int .i64 rep.2) 47).below ((Below.refl _ _).alloc (Nat.le_refl _) (.cells #[.slice none 0 0] 174)) (by simp))
      have HBZ := Lib.hid (zero_bin (w4.alloc (.cells #[.int .u32 (rep.1 : Int), .int .i64 rep.2] 47)))
      have HSZ5 : Hid (w2.heap.size ≤ w4.heap.size) := Lib.hid hb4.size
      have HSZ2 : Hid (w1.heap.size < w2.heap.size) := Lib.hid HX42.out.lt
      have HX45 := Lib.hid ((HX42.out.below hb4 HX42.out.lt).below hb5 (Nat.lt_of_lt_of_le HX42.out.lt hb4.size))
      have HFB := Lib.hid (RNFindB_raw n _ _ E G (by omega) rep _ (HN.out.below HB5.out))
      have HB15 := Lib.hid (HB12.out.trans ((hb4.trans (hb5.mono hb4.size)).mono HB12.out.size))
      obtain ⟨z0, z1, _, _⟩ := HX25.out
      clear hb4 hb5 a0 a1 a2 a3 c0
      go_wp2_with fail
      have HBZ5 : Hid (RBin (w4.heap.size + 1) 0 (.slice none 0 0) [] ((w4.alloc (.cells #[.int .u32 (rep.1 : Int), .int .i64 rep.2] 47)).alloc (.cells #[.slice none 0 0] 174))) := Lib.hid (by have h := HBZ.out; simpa using h)
      generalize (w4.alloc (.cells #[.int .u32 (rep.1 : Int), .int .i64 rep.2] 47)).alloc (.cells #[.slice none 0 0] 174) = w5 at *
      generalize hbq : w4.heap.size + 1 = b0 at *
      refine HFB.out.mono ?_
      rintro e w6 ⟨rfl, hb6⟩
      have HB6 := Lib.hid (HB5.out.trans (hb6.mono HB5.out.size))
      have HX26 := Lib.hid (HX25.out.below hb6 HX25.out.lt)
      have HX46 := Lib.hid (HX45.out.below hb6 HX45.out.lt)
      have HBZ6 := Lib.hid (HBZ5.out.below hb6)
      have HB16 := Lib.hid (HB15.out.trans (hb6.mono HB15.out.size))
      have HM : Hid (w.heap.size ≤ w1.heap.size ∧ w1.heap.size < w4.heap.size) := Lib.hid ⟨HM1.out, by have := HSZ2.out; have := HSZ5.out; omega⟩
      clear hb6 z0 z1 HBZ HBZ5
      rcases ixP_cases (fun q : RBE => decide (q.x = rep)) G with ⟨hix, hno⟩ | ⟨k, hk, hix, hy⟩
      · rw [hix]
        have hbn : binN (plainR E G) rep = [] := by
          unfold binN
          rw [show (plainR E G).bins = G.map prG from rfl, getG_none (fun j hj => of_decide_eq_false (hno j hj))]; rfl
        have HL0 := HTB
        rw [hbn] at HL0
        have HMAIN := Lib.hid (HM1'.out [] hbn.symm)
        have hbb0 := HBZ6.out.lt
        clear hix hno hbn
        go_wp2_with fail
        refine (OP.out _).mono ?_
        rintro e w8 ⟨vl, rfl, hol, hb8⟩
        have HB8 := Lib.hid (HB6.out.trans (hb8.mono HB6.out.size))
        have HB18 := Lib.hid (HB16.out.trans (hb8.mono HB16.out.size))
        have HX28 := Lib.hid (HX26.out.below hb8 HX26.out.lt)
        have HX48 := Lib.hid (HX46.out.below hb8 HX46.out.lt)
        have HBIN8 := Lib.hid (HBZ6.out.below hb8)
        have hbb : w4.heap.size < b0 ∧ b0 < w6.heap.size := ⟨by omega, hbb0⟩
        have hbv : ∀ j, (Value.slice none 0 0).ownBlock = some j → w4.heap.size < j ∧ j < w6.heap.size := fun j e => by cases e
        obtain ⟨L0, hL0⟩ : ∃ L0 : HldL, L0 = [] := ⟨_, rfl⟩
        obtain ⟨v0, hv0⟩ : ∃ v0, v0 = Value.slice none 0 0 := ⟨_, rfl⟩
        rw [← hv0] at hbv
        rw [← hL0, ← hv0] at HBIN8
        rw [← hL0] at HL0 HMAIN
        clear hbq hbb0 hb8 hL0 hv0
        generalize b0 = b at *
        have HBB := Lib.hid hbb
        have HBV := Lib.hid hbv
        have HOL := Lib.hid hol
        obtain ⟨lA, lc, hlf⟩ := own_formI hol
        subst hlf
        clear hol hbb hbv
        go_wp2
        go_loopg [13, 15] ps.length (fun gh v13 v15 wr => ∃ (k : Nat) (f : Int) (v' : Value) (L' : HldL), v15 = .int .i64 k ∧ v13 = .int .i64 f ∧ k ≤ ps.length ∧ gh = ps.length - k ∧ Hid (putAll ps L0 0 = putAll (ps.drop k) L' f) ∧ Hid (RBin b 0 v' L' wr) ∧ Hid (BFrame b v0 w8 wr) ∧ Hid (v'.ownBlock = v0.ownBlock ∨ ∀ j, v'.ownBlock = some j → w8.heap.size ≤ j) ∧ Hid (BinOk (7500 + k) L' ∧ L'.length ≤ 250) ∧ 0 ≤ f ∧ f ≤ 64 * k)
        case atStart => exact ⟨0, 0, v0, L0, rfl, rfl, Nat.zero_le _, rfl, Lib.hid (by rw [List.drop_zero]), HBIN8, Lib.hid ⟨rfl, rfl, rfl, Nat.le_refl _, fun _ _ _ _ => rfl⟩, Lib.hid (.inl rfl), Lib.hid (by have := HL0.out; exact ⟨this.1.mono (by omega), this.2.1⟩), by omega, by omega⟩
        case round =>
          obtain ⟨k, f, v', L', rfl, rfl, hk, hgm, HPA, HBIN, HFR, HVV, HOK, hf0, hf1⟩ := hrel
          have HBr : Hid (Below w.heap.size w wr) := Lib.hid (HFR.out.below' HB8.out HB8.out.size (by have := HBB.out; have := HM.out; omega) (fun j e => by have := HBV.out j e; have := HM.out; omega))
          have HX4r := Lib.hid (box4_blk HX48.out (HFR.out.block _ HX48.out.lt (by have := HBB.out; have := HM.out; omega) (fun e => by have := HBV.out _ e; have := HM.out; omega)))
          have HX2r := Lib.hid (box2_blk HX28.out (HFR.out.block _ HX28.out.lt (by have := HBB.out; omega) (fun e => by have := HBV.out _ e; omega)))
          have HOLr := Lib.hid (own_frame HOL.out (by have := HBB.out; omega) (fun j e => (HBV.out j e).2) HFR.out)
          by_cases hkl : k < ps.length
          · obtain ⟨lg, rfl, y0⟩ := own_str HOLr.out hkl
            have b1 : (0 : Int) ≤ (k : Int) := by omega
            have b2 : (k : Int) < (ps.length : Int) := by omega
            have HPUT := Lib.hid (RBPut_any b 0 v' L' (7500 + k) (by have := HPL.out; omega) HOK.out.1 (by have := HOK.out.2; omega) ps[k] wr (Nat.zero_le _) HBIN.out)
            have HPD := Lib.hid (putAll_drop hkl L' f)
            have HPC := Lib.hid (putB_code ps[k] L')
            have HPO := Lib.hid (binOk_put (by omega) HOK.out.1 ps[k])
            have HPN := Lib.hid (length_put (s := ps[k]) HOK.out.1.srt HOK.out.2)
            have HPM := Lib.hid (HMX.out ps[k] (List.getElem_mem hkl))
            have hbz : ((bs ps[k]).size : Int) = (ps[k].length : Int) := by rw [bs_size]
            have HKL := Lib.hid hkl
            generalize hpk : ps[k] = p at *
            have HPK := Lib.hid hpk
            clear hpk
            obtain ⟨L9, hL9⟩ : ∃ L9, L9 = (putB p L').1 := ⟨_, rfl⟩
            obtain ⟨x9, hx9⟩ : ∃ x9, x9 = (putB p L').2.1 := ⟨_, rfl⟩
            obtain ⟨n9, hn9⟩ : ∃ n9, n9 = (putB p L').2.2.1 := ⟨_, rfl⟩
            obtain ⟨cd, hcd⟩ : ∃ cd, cd = (putB p L').2.2.2 := ⟨_, rfl⟩
            unfold RPutPost at HPUT
            rw [← hL9, ← hx9, ← hn9, ← hcd] at HPUT
            rw [← hL9, ← hn9, ← hcd] at HPD
            rw [← hcd] at HPC
            rw [← hL9] at HPO HPN
            clear hL9 hx9 hn9 hcd
            obtain ⟨xa, xb⟩ := x9
            go_wp2_with fail
            refine HPUT.out.mono ?_
            rintro e w9 ⟨v9, rfl, hR9, hvv9, hf9⟩
            have HFR9 := Lib.hid (BFrame.trans' HFR.out hf9 HVV.out)
            have HB9 : Hid (Below w.heap.size w w9) := Lib.hid (HFR9.out.below' HB8.out HB8.out.size (by have := HBB.out; have := HM.out; omega) (fun j e => by have := HBV.out j e; have := HM.out; omega))
            by_cases hc0 : cd = 0
            · subst hc0
              have HPA9 : Hid (putAll ps L0 0 = putAll (ps.drop (k + 1)) L9 (f + if n9 then (p.length : Int) else 0)) := Lib.hid (by rw [HPA.out, HPD.out, if_pos rfl])
              have hba : Below w9.heap.size w9 (w9.alloc (.cells #[.int .u32 (xa : Int), .int .i64 xb] 47)) := (Below.refl _ _).alloc (Nat.le_refl _) _
              have HOLa := Lib.hid (own_belowI (own_frame HOL.out (by have := HBB.out; omega) (fun j e => (HBV.out j e).2) HFR9.out) hba)
              have HBINa := Lib.hid (hR9.below hba)
              have HFRa := Lib.hid (BFrame.trans' HFR9.out (BFrame.of_below (rb := b) (v := v9) hba) (by
                rcases hvv9 with h1 | h1
                · rw [h1]; exact HVV.out
                · exact .inr fun j e => Nat.le_trans HFR.out.size (h1 j e)))
              have HVVa : Hid (v9.ownBlock = v0.ownBlock ∨ ∀ j, v9.ownBlock = some j → w8.heap.size ≤ j) := Lib.hid (by
                rcases hvv9 with h1 | h1
                · rw [h1]; exact HVV.out
                · exact .inr fun j e => Nat.le_trans HFR.out.size (h1 j e))
              obtain ⟨lg2, hlg2, y9⟩ := own_str HOLa.out HKL.out
              obtain rfl : lg = lg2 := by injection hlg2 with h; injection h
              replace y9 := y9.trans (congrArg (fun z => some (VT z)) HPK.out)
              clear hba hf9 hvv9 hR9 HPUT HPD HPC y0 hlg2
              have hkb : k < 4000 := by have := HPL.out; omega
              have hpm := HPM.out
              have hfb : f ≤ 256000 := by omega
              cases n9 with
              | true =>
                go_wp2
                go_roundg (ps.length - (k + 1))
                case measure => omega
                case rel => exact ⟨k + 1, f + (p.length : Int), v9, L9, by go_num, by go_num, hkl, rfl, HPA9, HBINa, HFRa, HVVa, Lib.hid ⟨HPO.out.mono (by omega), HPN.out⟩, by omega, by have := HPM.out; omega⟩
              | false =>
                go_wp2
                go_roundg (ps.length - (k + 1))
                case measure => omega
                case rel => exact ⟨k + 1, f, v9, L9, by go_num, rfl, hkl, rfl, Lib.hid (by rw [HPA9.out]; simp), HBINa, HFRa, HVVa, Lib.hid ⟨HPO.out.mono (by omega), HPN.out⟩, by omega, by omega⟩
            · have hc1 : cd > 0 := by have := HPC.out; omega
              have HE2 : Hid (putN nm s (plainR E G) = (plainR E G, 0, cd)) := Lib.hid (by
                have e1 : (putAll ps L0 0).2.2 = cd := by rw [HPA.out, HPD.out, if_neg hc0]
                have e2 := HMAIN.out
                rw [e1, if_neg hc0] at e2
                exact e2)
              clear hf9 hvv9 hR9 HPUT HPD HPC y0
              go_wp2
              refine bodyPost_ret (v := .tuple #[.int .i64 0, .int .i64 cd]) (by simp [results, Tryz.results95, go_sem]) rfl ?_
              exact rput_errG HN.out HE2.out (HB9.out.alloc HB9.out.size _)
          · obtain rfl : k = ps.length := by omega
            obtain ⟨at_, hat, h1, h2⟩ := place_ex (fun x : Rcp × Value => bytesBefore x.1.name r.name) E
            have HPF : Hid (putAll ps L0 0 = (L', f, 0)) := Lib.hid (by rw [HPA.out, List.drop_of_length_le (Nat.le_refl _), putAll])
            have HNr := Lib.hid (HN.out.below HBr.out)
            have HSLr := Lib.hid ((HRD.out.keep (lo' := w.heap.size) (hi' := wr.heap.size) (fun p h1 h2 => (World.cell?_of_block (HFR.out.block p.block (by have := HB18.out.size; omega) (by have := HBB.out; have := HM.out; omega) (fun e => by have := HBV.out _ e; have := HM.out; omega))).trans (HB18.out.cell h2)) (Nat.le_refl _) (by have := HB18.out.size; have := HFR.out.size; omega)).rd)
            have HADD := Lib.hid (RNAdd_raw n _ _ E G (by omega) r (.slice SA r.ids.length sc) at_ hat h1 h2 wr HNr.out HSLr.out HAP.out)
            have H1 := Lib.hid h1
            have H2 := Lib.hid h2
            clear h1 h2
            obtain ⟨a0, a1, a2, a3, _⟩ := HX4r.out
            obtain ⟨z0, z1, _, _⟩ := HX2r.out
            go_wp2_with fail
            refine HADD.out.mono ?_
            rintro e w9 ⟨rfl, v7, hN9, h79, hf9⟩
            have HX29 := Lib.hid (box2_blk HX2r.out (hf9.block _ HX2r.out.lt (by have := HN.out.nlt; have := HM.out; omega)))
            have HVL : ∀ j, v'.ownBlock = some j → w1.heap.size ≤ j := fun j e => by
              rcases HVV.out with h1 | h1
              · have := HBV.out j (h1 ▸ e); have := HM.out; omega
              · have := h1 j e; have := HB18.out.size; omega
            have HMID := put_mid (x := rep) HN.out HBr.out HM.out.1 (by have := HBB.out; have := HM.out; omega) HBIN.out HVL HSB.out h79 hf9 (k := at_) (E := E)
            have HSET := Lib.hid (RNSetBin_raw n v7 _ ⟨rep, L', b, v'⟩ (insE at_ (r, .slice SA r.ids.length sc) E) G (by omega) HGS.out w9 hN9 HMID.1 HMID.2)
            have HEND : Hid (∀ e w', SetPost n v7 _ ⟨rep, L', b, v'⟩ (insE at_ (r, .slice SA r.ids.length sc) E) G w9 e w' → _) := Lib.hid (fun e w' hS => put_end HN.out HBr.out HM.out.1 (by have := HBB.out; have := HM.out; omega) HVL HSB.out h79 hf9 hat H1.out H2.out HNO.out hS)
            have HRES : Hid (putN nm s (plainR E G) = (⟨alPut bytesBefore r.name r (E.map fxE), alPut lesser rep L' (G.map prG)⟩, f, 0)) := Lib.hid (by have e2 := HMAIN.out; rw [HPF.out, if_pos rfl] at e2; rw [HRN.out]; exact e2)
            obtain ⟨z0, z1, _, _⟩ := HX29.out
            clear HMID HVL hN9 h79 hf9
            go_wp2_with fail
            refine HSET.out.mono ?_
            rintro e w10 hS
            have hT := HEND.out _ _ hS
            obtain rfl := hS.1
            have HT := Lib.hid hT
            clear hS hT
            go_wp2
            refine bodyPost_ret (v := .tuple #[.int .i64 f, .int .i64 0]) (by simp [results, Tryz.results95, go_sem]) rfl ?_
            exact ⟨by rw [HRES.out], by rw [HRES.out]; exact HT.out⟩
      · rw [hix]
        obtain ⟨g, rfl, hg, hcells⟩ := HBX.out (by omega)
        obtain ⟨_, _, x2⟩ := hcells k hk
        have c1 := (HB6.out.cell (p := ⟨n, 1, none⟩) hnl).trans HN.out.c1
        have y2 := (HB6.out.cell (p := ⟨g, k * 3 + 2, none⟩) hg).trans x2
        have hge : ((k : Nat) : Int) ≥ 0 := by omega
        have b1 : (0 : Int) ≤ (k : Int) := by omega
        have b2 : (k : Int) < (G.length : Int) := by omega
        have hbn : binN (plainR E G) rep = G[k].L := by
          unfold binN
          rw [show (plainR E G).bins = G.map prG from rfl, getG_some HGS.out hk (of_decide_eq_true hy)]; rfl
        have HL0 := HTB
        rw [hbn] at HL0
        have HMAIN := Lib.hid (HM1'.out _ hbn.symm)
        have HCP := Lib.hid (RBCopy_raw G[k].rb 0 G[k].v G[k].L (by have := HL0.out.2.1; omega) w6 ((HN.out.bin _ (List.getElem_mem hk)).below HB6.out))
        have hsz64 : w4.heap.size < w6.heap.size := by have := HBZ6.out.lt; omega
        clear hix hy hbn x2 hcells
        generalize G[k].L = L0 at *
        generalize G[k].rb = rb at *
        go_wp2_with fail
        refine HCP.out.mono ?_
        rintro e w7 ⟨b, v0, rfl, hR7, hbb7, hb7⟩
        have HR7 := Lib.hid hR7
        have HB7 := Lib.hid (HB6.out.trans (hb7.mono HB6.out.size))
        have HB17 := Lib.hid (HB16.out.trans (hb7.mono HB16.out.size))
        have HX27 := Lib.hid (HX26.out.below hb7 HX26.out.lt)
        have HX47 := Lib.hid (HX46.out.below hb7 HX46.out.lt)
        have hbb : w4.heap.size < b ∧ b < w7.heap.size := ⟨by omega, hR7.lt⟩
        have hbv : ∀ j, v0.ownBlock = some j → w4.heap.size < j ∧ j < w7.heap.size := fun j e => ⟨by have := own_ge hR7.own e; omega, own_ltN hR7.own e⟩
        clear hR7 hbb7 hb7 y2 HCP hbq
        go_wp2_with fail
        refine (OP.out _).mono ?_
        rintro e w8 ⟨vl, rfl, hol, hb8⟩
        have HB8 := Lib.hid (HB7.out.trans (hb8.mono HB7.out.size))
        have HB18 := Lib.hid (HB17.out.trans (hb8.mono HB17.out.size))
        have HX28 := Lib.hid (HX27.out.below hb8 HX27.out.lt)
        have HX48 := Lib.hid (HX47.out.below hb8 HX47.out.lt)
        have HBIN8 := Lib.hid (HR7.out.low.below hb8)
        clear hb8
        have HBB := Lib.hid hbb
        have HBV := Lib.hid hbv
        have HOL := Lib.hid hol
        obtain ⟨lA, lc, hlf⟩ := own_formI hol
        subst hlf
        clear hol hbb hbv
        go_wp2
        go_loopg [13, 15] ps.length (fun gh v13 v15 wr => ∃ (k : Nat) (f : Int) (v' : Value) (L' : HldL), v15 = .int .i64 k ∧ v13 = .int .i64 f ∧ k ≤ ps.length ∧ gh = ps.length - k ∧ Hid (putAll ps L0 0 = putAll (ps.drop k) L' f) ∧ Hid (RBin b 0 v' L' wr) ∧ Hid (BFrame b v0 w8 wr) ∧ Hid (v'.ownBlock = v0.ownBlock ∨ ∀ j, v'.ownBlock = some j → w8.heap.size ≤ j) ∧ Hid (BinOk (7500 + k) L' ∧ L'.length ≤ 250) ∧ 0 ≤ f ∧ f ≤ 64 * k)
        case atStart => exact ⟨0, 0, v0, L0, rfl, rfl, Nat.zero_le _, rfl, Lib.hid (by rw [List.drop_zero]), HBIN8, Lib.hid ⟨rfl, rfl, rfl, Nat.le_refl _, fun _ _ _ _ => rfl⟩, Lib.hid (.inl rfl), Lib.hid (by have := HL0.out; exact ⟨this.1.mono (by omega), this.2.1⟩), by omega, by omega⟩
        case round =>
          obtain ⟨k, f, v', L', rfl, rfl, hk, hgm, HPA, HBIN, HFR, HVV, HOK, hf0, hf1⟩ := hrel
          have HBr : Hid (Below w.heap.size w wr) := Lib.hid (HFR.out.below' HB8.out HB8.out.size (by have := HBB.out; have := HM.out; omega) (fun j e => by have := HBV.out j e; have := HM.out; omega))
          have HX4r := Lib.hid (box4_blk HX48.out (HFR.out.block _ HX48.out.lt (by have := HBB.out; have := HM.out; omega) (fun e => by have := HBV.out _ e; have := HM.out; omega)))
          have HX2r := Lib.hid (box2_blk HX28.out (HFR.out.block _ HX28.out.lt (by have := HBB.out; omega) (fun e => by have := HBV.out _ e; omega)))
          have HOLr := Lib.hid (own_frame HOL.out (by have := HBB.out; omega) (fun j e => (HBV.out j e).2) HFR.out)
          by_cases hkl : k < ps.length
          · obtain ⟨lg, rfl, y0⟩ := own_str HOLr.out hkl
            have b1 : (0 : Int) ≤ (k : Int) := by omega
            have b2 : (k : Int) < (ps.length : Int) := by omega
            have HPUT := Lib.hid (RBPut_any b 0 v' L' (7500 + k) (by have := HPL.out; omega) HOK.out.1 (by have := HOK.out.2; omega) ps[k] wr (Nat.zero_le _) HBIN.out)
            have HPD := Lib.hid (putAll_drop hkl L' f)
            have HPC := Lib.hid (putB_code ps[k] L')
            have HPO := Lib.hid (binOk_put (by omega) HOK.out.1 ps[k])
            have HPN := Lib.hid (length_put (s := ps[k]) HOK.out.1.srt HOK.out.2)
            have HPM := Lib.hid (HMX.out ps[k] (List.getElem_mem hkl))
            have hbz : ((bs ps[k]).size : Int) = (ps[k].length : Int) := by rw [bs_size]
            have HKL := Lib.hid hkl
            generalize hpk : ps[k] = p at *
            have HPK := Lib.hid hpk
            clear hpk
            obtain ⟨L9, hL9⟩ : ∃ L9, L9 = (putB p L').1 := ⟨_, rfl⟩
            obtain ⟨x9, hx9⟩ : ∃ x9, x9 = (putB p L').2.1 := ⟨_, rfl⟩
            obtain ⟨n9, hn9⟩ : ∃ n9, n9 = (putB p L').2.2.1 := ⟨_, rfl⟩
            obtain ⟨cd, hcd⟩ : ∃ cd, cd = (putB p L').2.2.2 := ⟨_, rfl⟩
            unfold RPutPost at HPUT
            rw [← hL9, ← hx9, ← hn9, ← hcd] at HPUT
            rw [← hL9, ← hn9, ← hcd] at HPD
            rw [← hcd] at HPC
            rw [← hL9] at HPO HPN
            clear hL9 hx9 hn9 hcd
            obtain ⟨xa, xb⟩ := x9
            go_wp2_with fail
            refine HPUT.out.mono ?_
            rintro e w9 ⟨v9, rfl, hR9, hvv9, hf9⟩
            have HFR9 := Lib.hid (BFrame.trans' HFR.out hf9 HVV.out)
            have HB9 : Hid (Below w.heap.size w w9) := Lib.hid (HFR9.out.below' HB8.out HB8.out.size (by have := HBB.out; have := HM.out; omega) (fun j e => by have := HBV.out j e; have := HM.out; omega))
            by_cases hc0 : cd = 0
            · subst hc0
              have HPA9 : Hid (putAll ps L0 0 = putAll (ps.drop (k + 1)) L9 (f + if n9 then (p.length : Int) else 0)) := Lib.hid (by rw [HPA.out, HPD.out, if_pos rfl])
              have hba : Below w9.heap.size w9 (w9.alloc (.cells #[.int .u32 (xa : Int), .int .i64 xb] 47)) := (Below.refl _ _).alloc (Nat.le_refl _) _
              have HOLa := Lib.hid (own_belowI (own_frame HOL.out (by have := HBB.out; omega) (fun j e => (HBV.out j e).2) HFR9.out) hba)
              have HBINa := Lib.hid (hR9.below hba)
              have HFRa := Lib.hid (BFrame.trans' HFR9.out (BFrame.of_below (rb := b) (v := v9) hba) (by
                rcases hvv9 with h1 | h1
                · rw [h1]; exact HVV.out
                · exact .inr fun j e => Nat.le_trans HFR.out.size (h1 j e)))
              have HVVa : Hid (v9.ownBlock = v0.ownBlock ∨ ∀ j, v9.ownBlock = some j → w8.heap.size ≤ j) := Lib.hid (by
                rcases hvv9 with h1 | h1
                · rw [h1]; exact HVV.out
                · exact .inr fun j e => Nat.le_trans HFR.out.size (h1 j e))
              obtain ⟨lg2, hlg2, y9⟩ := own_str HOLa.out HKL.out
              obtain rfl : lg = lg2 := by injection hlg2 with h; injection h
              replace y9 := y9.trans (congrArg (fun z => some (VT z)) HPK.out)
              clear hba hf9 hvv9 hR9 HPUT HPD HPC y0 hlg2
              have hkb : k < 4000 := by have := HPL.out; omega
              have hpm := HPM.out
              have hfb : f ≤ 256000 := by omega
              cases n9 with
              | true =>
                go_wp2
                go_roundg (ps.length - (k + 1))
                case measure => omega
                case rel => exact ⟨k + 1, f + (p.length : Int), v9, L9, by go_num, by go_num, hkl, rfl, HPA9, HBINa, HFRa, HVVa, Lib.hid ⟨HPO.out.mono (by omega), HPN.out⟩, by omega, by have := HPM.out; omega⟩
              | false =>
                go_wp2
                go_roundg (ps.length - (k + 1))
                case measure => omega
                case rel => exact ⟨k + 1, f, v9, L9, by go_num, rfl, hkl, rfl, Lib.hid (by rw [HPA9.out]; simp), HBINa, HFRa, HVVa, Lib.hid ⟨HPO.out.mono (by omega), HPN.out⟩, by omega, by omega⟩
            · have hc1 : cd > 0 := by have := HPC.out; omega
              have HE2 : Hid (putN nm s (plainR E G) = (plainR E G, 0, cd)) := Lib.hid (by
                have e1 : (putAll ps L0 0).2.2 = cd := by rw [HPA.out, HPD.out, if_neg hc0]
                have e2 := HMAIN.out
                rw [e1, if_neg hc0] at e2
                exact e2)
              clear hf9 hvv9 hR9 HPUT HPD HPC y0
              go_wp2
              refine bodyPost_ret (v := .tuple #[.int .i64 0, .int .i64 cd]) (by simp [results, Tryz.results95, go_sem]) rfl ?_
              exact rput_errG HN.out HE2.out (HB9.out.alloc HB9.out.size _)
          · obtain rfl : k = ps.length := by omega
            obtain ⟨at_, hat, h1, h2⟩ := place_ex (fun x : Rcp × Value => bytesBefore x.1.name r.name) E
            have HPF : Hid (putAll ps L0 0 = (L', f, 0)) := Lib.hid (by rw [HPA.out, List.drop_of_length_le (Nat.le_refl _), putAll])
            have HNr := Lib.hid (HN.out.below HBr.out)
            have HSLr := Lib.hid ((HRD.out.keep (lo' := w.heap.size) (hi' := wr.heap.size) (fun p h1 h2 => (World.cell?_of_block (HFR.out.block p.block (by have := HB18.out.size; omega) (by have := HBB.out; have := HM.out; omega) (fun e => by have := HBV.out _ e; have := HM.out; omega))).trans (HB18.out.cell h2)) (Nat.le_refl _) (by have := HB18.out.size; have := HFR.out.size; omega)).rd)
            have HADD := Lib.hid (RNAdd_raw n _ _ E G (by omega) r (.slice SA r.ids.length sc) at_ hat h1 h2 wr HNr.out HSLr.out HAP.out)
            have H1 := Lib.hid h1
            have H2 := Lib.hid h2
            clear h1 h2
            obtain ⟨a0, a1, a2, a3, _⟩ := HX4r.out
            obtain ⟨z0, z1, _, _⟩ := HX2r.out
            go_wp2_with fail
            refine HADD.out.mono ?_
            rintro e w9 ⟨rfl, v7, hN9, h79, hf9⟩
            have HX29 := Lib.hid (box2_blk HX2r.out (hf9.block _ HX2r.out.lt (by have := HN.out.nlt; have := HM.out; omega)))
            have HVL : ∀ j, v'.ownBlock = some j → w1.heap.size ≤ j := fun j e => by
              rcases HVV.out with h1 | h1
              · have := HBV.out j (h1 ▸ e); have := HM.out; omega
              · have := h1 j e; have := HB18.out.size; omega
            have HMID := put_mid (x := rep) HN.out HBr.out HM.out.1 (by have := HBB.out; have := HM.out; omega) HBIN.out HVL HSB.out h79 hf9 (k := at_) (E := E)
            have HSET := Lib.hid (RNSetBin_raw n v7 _ ⟨rep, L', b, v'⟩ (insE at_ (r, .slice SA r.ids.length sc) E) G (by omega) HGS.out w9 hN9 HMID.1 HMID.2)
            have HEND : Hid (∀ e w', SetPost n v7 _ ⟨rep, L', b, v'⟩ (insE at_ (r, .slice SA r.ids.length sc) E) G w9 e w' → _) := Lib.hid (fun e w' hS => put_end HN.out HBr.out HM.out.1 (by have := HBB.out; have := HM.out; omega) HVL HSB.out h79 hf9 hat H1.out H2.out HNO.out hS)
            have HRES : Hid (putN nm s (plainR E G) = (⟨alPut bytesBefore r.name r (E.map fxE), alPut lesser rep L' (G.map prG)⟩, f, 0)) := Lib.hid (by have e2 := HMAIN.out; rw [HPF.out, if_pos rfl] at e2; rw [HRN.out]; exact e2)
            obtain ⟨z0, z1, _, _⟩ := HX29.out
            clear HMID HVL hN9 h79 hf9
            go_wp2_with fail
            refine HSET.out.mono ?_
            rintro e w10 hS
            have hT := HEND.out _ _ hS
            obtain rfl := hS.1
            have HT := Lib.hid hT
            clear hS hT
            go_wp2
            refine bodyPost_ret (v := .tuple #[.int .i64 f, .int .i64 0]) (by simp [results, Tryz.results95, go_sem]) rfl ?_
            exact ⟨by rw [HRES.out], by rw [HRES.out]; exact HT.out⟩
end Go.Proofs.YtpanoplcamdnkaaGreatDoor
/- The reference's Node: walk of Get. No conditions but bounds. -/
namespace Go.Proofs.YtpanoplcamdnkaaGreatDoor
open Go.RowKit Go.Lib Go.Maps

theorem bs_appR (a b : Bytes) : bs a ++ bs b = bs (a ++ b) := by
  apply ba_ext; rw [bs_toList]; simp [bs]
theorem stands_one {L : HldL} {x : Idn} {i j : Nat} (hi : Stands L x i) (hj : Stands L x j) : i = j := by
  obtain ⟨h1, h2, h3⟩ := hi
  obtain ⟨k1, k2, k3⟩ := hj
  rcases Nat.lt_trichotomy i j with h | h | h
  · exact absurd h2 (k3 i h1 h)
  · exact h
  · exact absurd k2 (h3 j k1 h)
theorem stands_of {x : Idn} : ∀ {L : HldL}, (getB L x).isSome = true → ∃ j, ∃ hj : j < L.length, Stands L x j ∧ textB L x = L[j].text := by
  intro L h
  obtain ⟨o, ho⟩ := Option.isSome_iff_exists.1 h
  by_cases hn : ∃ j, Stands L x j
  · obtain ⟨j, hj⟩ := hn
    refine ⟨j, hj.1, hj, ?_⟩
    unfold textB
    rw [getB_stands hj]; rfl
  · exfalso
    have hno : Nowhere L x := fun j hj e => by
      have : ∀ m, ∀ j (hj : j < L.length), j ≤ m → L[j].id ≠ x := by
        intro m
        induction m with
        | zero => intro j hj hm e; exact hn ⟨j, hj, e, fun i _ hij => by omega⟩
        | succ m ih => intro j hj hm e; exact hn ⟨j, hj, e, fun i hi hij => ih i hi (by omega)⟩
      exact this j j hj (Nat.le_refl _) e
    rw [getB_nowhere hno] at ho; cases ho
/-- the first pieces of a file -/
def firstT (L : HldL) (ids : IdL) (k : Nat) : Bytes := ((ids.take k).map (textB L)).flatten
theorem firstT_succ {L : HldL} {ids : IdL} {k : Nat} (hk : k < ids.length) : firstT L ids (k + 1) = firstT L ids k ++ textB L ids[k] := by
  unfold firstT
  rw [List.take_succ_eq_append_getElem hk, List.map_append, List.flatten_append]; simp
theorem firstT_len {L : HldL} (hL : ∀ x, (textB L x).length ≤ 64) (ids : IdL) (k : Nat) : (firstT L ids k).length ≤ 64 * k := by
  unfold firstT
  induction k with
  | zero => simp
  | succ k ih =>
    by_cases hk : k < ids.length
    · rw [List.take_succ_eq_append_getElem hk, List.map_append, List.flatten_append, List.length_append]
      have := hL ids[k]
      simp only [List.map_cons, List.map_nil, List.flatten_cons, List.flatten_nil, List.append_nil]
      omega
    · rw [List.take_of_length_le (by omega)] at ih ⊢
      omega
theorem textB_len {n : Int} {L : HldL} (h : BinOk n L) (x : Idn) : (textB L x).length ≤ 64 := by
  unfold textB
  cases hg : getB L x with
  | none => simp
  | some o =>
    have h1 := (h.all o (getB_mem hg).1).len.2
    simpa using h1
/-- the files' bins, at places -/
theorem NodeOk.binAt {E : REL} {G : List RBE} (h : NodeOk (plainR E G)) {k : Nat} (hk : k < E.length) : ∃ i, ∃ hi : i < G.length, G[i].x = repOf E[k].1.ids ∧ ixP (fun q => decide (q.x = repOf E[k].1.ids)) G = (i : Int) ∧ (∀ x ∈ E[k].1.ids, (getB G[i].L x).isSome = true) ∧ BinOk 7500 G[i].L ∧ G[i].L.length ≤ 250 ∧ binN (plainR E G) (repOf E[k].1.ids) = G[i].L ∧ E[k].1.ids.length ≤ 250 := by
  have hg := getE_some h.fsrt hk rfl
  obtain ⟨s, _, h2, h3, _, L, h4, _, h6⟩ := h.get hg
  have hids : E[k].1.ids.length ≤ 250 := by rw [h3]; exact idsOf_le h2
  rcases ixP_cases (fun q : RBE => decide (q.x = repOf E[k].1.ids)) G with ⟨_, hno⟩ | ⟨i, hi, hix, hy⟩
  · have hn := getG_none (G := G) (fun j hj => of_decide_eq_false (hno j hj))
    rw [show alGet (plainR E G).bins (repR E[k].1) = none from hn] at h4; cases h4
  · have hx : G[i].x = repOf E[k].1.ids := of_decide_eq_true hy
    have hb := getG_some h.bsrt hi hx
    have hL : L = G[i].L := by
      have e : alGet (plainR E G).bins (repR E[k].1) = some G[i].L := hb
      rw [h4] at e; injection e
    subst hL
    exact ⟨i, hi, hx, hix, fun x hx => h6 x (by rw [h3] at hx; exact hx), h.bin7 hb, (h.bin _ _ hb).2.2.1, by unfold binN; rw [show alGet (plainR E G).bins (repOf E[k].1.ids) = _ from hb]; rfl, hids⟩
def RGetPost (nm : Bytes) (P : PNode) (w : World) (e : Ending) (w' : World) : Prop := e = .returned (.tuple #[VT (getN nm P).1, .int .i64 (getN nm P).2]) ∧ Below w.heap.size w w'
set_option maxRecDepth 100000 in
set_option maxHeartbeats 2000000 in
theorem RNGet_raw (n : Nat) (vf vb : Value) (E : REL) (G : List RBE) (hP : NodeOk (plainR E G)) (nm : Bytes) (w : World) (h : ORN n vf vb E G w) :
    Calls Tryz.prog 98 #[.pointer (some ⟨n, 0, none⟩), VT nm] w (RGetPost nm (plainR E G) w) := by
  have hE30 : E.length ≤ 30 := by have := hP.flen; rw [plainR_eq, List.length_map] at this; exact this
  have hG30 : G.length ≤ 30 := by have := hP.blen; rw [plainR_eq, List.length_map, List.length_map] at this; omega
  have HPK := Lib.hid hP
  have HN := Lib.hid h
  have hn := h.nlt
  have HFIND := Lib.hid (RNFind_raw n vf vb E G (by omega) nm w h)
  have c0 := h.c0
  obtain ⟨A, c, hvf, hcap, hx⟩ := h.vff
  subst hvf
  have HX := Lib.hid hx
  obtain ⟨BA, bc, hvb, hbcap, hbx⟩ := h.vbf
  subst hvb
  have HBX := Lib.hid hbx
  clear hx h hP hbx
  go_enter Tryz.func98, Tryz.ntmps98
  go_wp2_with fail
  refine HFIND.out.mono ?_
  rintro e w0 ⟨rfl, rfl⟩
  rcases ixP_cases (fun x : Rcp × Value => decide (x.1.name = nm)) E with ⟨hix, hno⟩ | ⟨k, hk, hix, hy⟩
  · rw [hix]
    have HG0 := Lib.hid (getE_none (E := E) (nm := nm) (fun j hj => of_decide_eq_false (hno j hj)))
    have HQ : Hid (getN nm (plainR E G) = ([], 5)) := Lib.hid (by unfold getN; rw [show alGet (plainR E G).files nm = none from HG0.out])
    clear hix hno
    go_wp2
    refine bodyPost_ret (v := .tuple #[VT [], .int .i64 5]) (by simp [results, Tryz.results98, go_sem, bs]) rfl ?_
    exact ⟨by rw [HQ.out], Below.refl _ _⟩
  · rw [hix]
    obtain ⟨g, o, rfl, hg, hcells⟩ := HX.out (by omega)
    obtain ⟨x0, x1, x2, x3⟩ := hcells k hk
    have hge : ¬ ((k : Nat) : Int) < 0 := by omega
    have b1 : (0 : Int) ≤ (k : Int) := by omega
    have b2 : (k : Int) < (E.length : Int) := by omega
    obtain ⟨i, hi, hxi, hixg, hall, hbok, hblen, hbn, hil⟩ := HPK.out.binAt hk
    have HQ : Hid (getN nm (plainR E G) = (firstT G[i].L E[k].1.ids E[k].1.ids.length, 0)) := Lib.hid (by
      unfold getN
      rw [show alGet (plainR E G).files nm = some E[k].1 from getE_some HPK.out.fsrt hk (of_decide_eq_true hy)]
      simp only
      rw [show repR E[k].1 = repOf E[k].1.ids from rfl, hbn]
      unfold firstT
      rw [List.take_length])
    have hsl := HN.out.ids E[k] (List.getElem_mem hk)
    have HIL := Lib.hid hil
    have HALL := Lib.hid hall
    have HBOK := Lib.hid hbok
    have HBL := Lib.hid hblen
    have HRB := Lib.hid (HN.out.bin G[i] (List.getElem_mem hi))
    have HFB : Hid (∀ w', Below w.heap.size w w' → Calls Tryz.prog 53 #[.pointer (some ⟨n, 0, none⟩), idV (repOf E[k].1.ids)] w' fun e w'' => e = .returned (.int .i64 (i : Int)) ∧ Below w'.heap.size w' w'') := Lib.hid (fun w' hb => by
      have := RNFindB_raw n _ _ E G (by omega) (repOf E[k].1.ids) w' (HN.out.below hb)
      rwa [hixg] at this)
    obtain ⟨bg, hbg, hbgl, hbcells⟩ := HBX.out (by omega)
    subst hbg
    obtain ⟨_, _, z2⟩ := hbcells i hi
    have Z2 := Lib.hid z2
    have bi1 : (0 : Int) ≤ (i : Int) := by omega
    have bi2 : (i : Int) < (G.length : Int) := by omega
    clear hix hy hcells hixg hall hbok hblen hbn hil hbcells z2 hxi
    generalize E[k] = q at *
    obtain ⟨r, sl⟩ := q
    simp only at x0 x1 x2 x3 hsl HIL HALL HFB HQ
    obtain ⟨SA, sc, hsv, hsc, hscells⟩ := hsl.form
    subst hsv
    have HSL := Lib.hid hsl
    have HSC := Lib.hid hscells
    clear hsl hscells
    generalize G[i].L = L at *
    obtain ⟨rb, hrb⟩ : ∃ rb, rb = G[i].rb := ⟨_, rfl⟩
    obtain ⟨vB, hvB⟩ : ∃ vB, vB = G[i].v := ⟨_, rfl⟩
    rw [← hrb] at Z2
    rw [← hrb, ← hvB] at HRB
    clear hrb hvB
    have hb1 : Below w.heap.size w (w.alloc (.cells #[VT r.name, .int .i64 r.len, .int .u32 (r.print : Int), .slice SA r.ids.length sc] 65)) := (Below.refl _ _).alloc (Nat.le_refl _) _
    have HB1 := Lib.hid hb1
    have BX1 := Lib.hid (Box4.mk' w (VT r.name) (.int .i64 r.len) (.int .u32 (r.print : Int)) (.slice SA r.ids.length sc) 65)
    clear hb1
    go_wp2
    generalize w.alloc (.cells #[VT r.name, .int .i64 r.len, .int .u32 (r.print : Int), .slice SA r.ids.length sc] 65) = w1 at *
    have hn1 : n < w1.heap.size := Nat.lt_of_lt_of_le hn HB1.out.size
    have C1 := Lib.hid ((HB1.out.cell (p := ⟨n, 1, none⟩) hn).trans HN.out.c1)
    have HSL1 := Lib.hid ((HSL.out.keep HB1.out (Nat.le_refl _)).more HB1.out.size)
    have HFB1 := Lib.hid (fun w' (hb : Below w1.heap.size w1 w') => HFB.out w' (HB1.out.trans (hb.mono HB1.out.size)))
    clear HFB
    have HFB := HFB1
    clear HFB1 x0 x1 x2 x3 c0
    have hS0 : Below w1.heap.size w1 w1.drew := (Below.refl _ _).drew
    refine region_S (fun w' => Below w1.heap.size w1 w') 8 (by kernel_rfl) (by kernel_rfl) ?_
    refine take_S 0 rfl (by kernel_rfl) (by kernel_rfl) hS0 (fun w' hS => by go_simp; rfl) ?_
    refine take_S 1 rfl (by kernel_rfl) (by kernel_rfl) hS0 (fun w' hS => by go_simp; rfl) ?_
    refine take_S 2 rfl (by kernel_rfl) (by kernel_rfl) hS0 (fun w' hS => by go_simp; rfl) ?_
    refine take_S 3 rfl (by kernel_rfl) (by kernel_rfl) hS0 (fun w' hS => by have A0 := (hS.cell (p := ⟨n, 1, none⟩) hn1).trans C1.out; go_simp; rfl) ?_
    refine take_S 4 rfl (by kernel_rfl) (by kernel_rfl) hS0 (fun w' hS => by go_simp; rfl) ?_
    refine take_S 5 rfl (by kernel_rfl) (by kernel_rfl) hS0 (fun w' hS => by obtain ⟨A0, A1, A2, A3, _⟩ := BX1.out.below hS BX1.out.lt; go_simp; rfl) ?_
    refine carry_S 6 rfl (by kernel_rfl) (by decide) (by kernel_rfl) (fun K hK => ?_)
    go_simp
    refine (RRepOf_any (.agg #[VT r.name, .int .i64 r.len, .int .u32 (r.print : Int), .slice SA r.ids.length sc]) r (by have := HIL.out; omega) _ ⟨_, rfl, (HSL1.out.keep hS0 (Nat.le_refl _)).more hS0.size⟩).mono ?_
    rintro e w4 ⟨rfl, hbw4⟩
    have hS1 : Below w1.heap.size w1 w4 := hS0.trans (hbw4.mono hS0.size)
    refine hK _ _ hS1 ?_
    clear hK K
    try simp only [Act.put, List.getElem_toArray, List.getElem_cons_succ, List.getElem_cons_zero, List.setIfInBounds_toArray, List.set_cons_zero, List.set_cons_succ]
    refine carry_S 7 rfl (by kernel_rfl) (by decide) (by kernel_rfl) (fun K hK => ?_)
    go_simp
    refine (HFB.out _ hS1).mono ?_
    rintro e w5 ⟨rfl, hbw5⟩
    have hS2 : Below w1.heap.size w1 w5 := hS1.trans (hbw5.mono hS1.size)
    refine hK _ _ hS2 (forced_S (by kernel_rfl) ?_)
    clear hK K
    try simp only [Act.put, List.getElem_toArray, List.getElem_cons_succ, List.getElem_cons_zero, List.setIfInBounds_toArray, List.set_cons_zero, List.set_cons_succ]
    try simp only [Act.put, List.getElem_toArray, List.getElem_cons_succ, List.getElem_cons_zero, List.setIfInBounds_toArray, List.set_cons_zero, List.set_cons_succ]
    simp only [List.drop_succ_cons, List.drop_zero]
    have HB5 := Lib.hid (HB1.out.trans (hS2.mono HB1.out.size))
    have HS15 := Lib.hid hS2
    have z2 := (HB5.out.cell (p := ⟨bg, i * 3 + 2, none⟩) hbgl).trans Z2.out
    clear hS0 hS1 hS2 hbw4 hbw5
    go_wp2
    obtain ⟨lA, lc, hvB, hlr⟩ := own_rdH HRB.out.own
    subst hvB
    have HLR := Lib.hid hlr
    clear hlr z2
    go_loopg [9, 10] r.ids.length (fun gh v9 v10 wr => ∃ k : Nat, v10 = .int .i64 k ∧ v9 = VT (firstT L r.ids k) ∧ k ≤ r.ids.length ∧ gh = r.ids.length - k ∧ Hid (Below w5.heap.size w5 wr))
    case atStart => exact ⟨0, rfl, rfl, Nat.zero_le _, rfl, Lib.hid (Below.refl _ _)⟩
    case round =>
      obtain ⟨k, rfl, rfl, hk, hgm, HBr⟩ := hrel
      have HBw := Lib.hid (HB5.out.trans (HBr.out.mono HB5.out.size))
      have HB1w := Lib.hid (HS15.out.trans (HBr.out.mono HS15.out.size))
      have BXr := Lib.hid (BX1.out.below HB1w.out BX1.out.lt)
      have CD := Lib.hid BXr.out.c3
      have d3 := CD.out
      have hdr := BXr.out.lt
      have hil := HIL.out
      have hlen := firstT_len (textB_len HBOK.out) r.ids k
      by_cases hkl : k < r.ids.length
      · obtain ⟨sg, so, rfl, hsg, hscc⟩ := HSC.out (by omega)
        obtain ⟨y0, y1⟩ := hscc k hkl
        have Y0 := Lib.hid ((HBw.out.cell (p := ⟨sg, so + k * 2, none⟩) hsg).trans y0)
        have Y1 := Lib.hid ((HBw.out.cell (p := ⟨sg, so + k * 2 + 1, none⟩) hsg).trans y1)
        obtain ⟨j, hj, hst, htx⟩ := stands_of (HALL.out r.ids[k] (List.getElem_mem hkl))
        have HFT := Lib.hid (firstT_succ (L := L) hkl)
        have htl := textB_len HBOK.out r.ids[k]
        have CR := Lib.hid (HRB.out.below HBw.out).cell
        have hrr : rb < wr.heap.size := Nat.lt_of_lt_of_le HRB.out.lt HBw.out.size
        have hsr : sg < wr.heap.size := Nat.lt_of_lt_of_le hsg HBw.out.size
        have HFD : Hid (∀ w', Below wr.heap.size wr w' → Calls Tryz.prog 156 #[.pointer (some ⟨rb, 0, none⟩), idV r.ids[k]] w' fun e w'' => e = .returned (.int .i64 (j : Int)) ∧ Below w'.heap.size w' w'') := Lib.hid (fun w' hb => (RBFind_any rb 0 _ L (by have := HBL.out; omega) r.ids[k] w' (HRB.out.below (HBw.out.trans (hb.mono HBw.out.size)))).mono (by
          rintro e w'' ⟨hb2, ⟨j', hs, rfl⟩ | ⟨hno, _⟩⟩
          · rw [stands_one hs hst]; exact ⟨rfl, hb2⟩
          · exact absurd hst.2.1 (hno j hj)))
        obtain ⟨lg, hlA, hlg, hlcells⟩ := HLR.out (by omega)
        subst hlA
        obtain ⟨_, _, _, t3⟩ := hlcells j hj
        rw [← htx] at t3
        have T3 := Lib.hid t3
        have bj1 : (0 : Int) ≤ (j : Int) := by omega
        have bj2 : (j : Int) < (L.length : Int) := by omega
        have b1 : (0 : Int) ≤ (k : Int) := by omega
        have b2 : (k : Int) < (r.ids.length : Int) := by omega
        rw [htx] at htl HFT T3
        clear hscc y0 y1 hlcells t3 hst htx
        have TX := Lib.hid ((HBw.out.cell (p := ⟨lg, j * 4 + 3, none⟩) hlg).trans T3.out)
        have hlr : lg < wr.heap.size := Nat.lt_of_lt_of_le hlg HBw.out.size
        generalize r.ids[k] = x at *
        generalize L[j].text = tx at *
        go_wp2
        have hS0 : Below wr.heap.size wr wr.drew := (Below.refl _ _).drew
        refine region_S (fun w' => Below wr.heap.size wr w') 15 (by kernel_rfl) (by kernel_rfl) ?_
        refine take_S 0 rfl (by kernel_rfl) (by kernel_rfl) hS0 (fun w' hS => by go_simp; rfl) ?_
        refine take_S 1 rfl (by kernel_rfl) (by kernel_rfl) hS0 (fun w' hS => by go_simp; rfl) ?_
        refine take_S 2 rfl (by kernel_rfl) (by kernel_rfl) hS0 (fun w' hS => by go_simp; rfl) ?_
        refine take_S 3 rfl (by kernel_rfl) (by kernel_rfl) hS0 (fun w' hS => by go_simp; rfl) ?_
        refine take_S 4 rfl (by kernel_rfl) (by kernel_rfl) hS0 (fun w' hS => by have A0 := (hS.cell (p := ⟨rb, 0, none⟩) hrr).trans CR.out; go_simp; rfl) ?_
        refine take_S 5 rfl (by kernel_rfl) (by kernel_rfl) hS0 (fun w' hS => by go_simp; rfl) ?_
        refine take_S 6 rfl (by kernel_rfl) (by kernel_rfl) hS0 (fun w' hS => by go_simp; rfl) ?_
        refine take_S 7 rfl (by kernel_rfl) (by kernel_rfl) hS0 (fun w' hS => by have A0 := (hS.cell (p := ⟨w.heap.size, 3, none⟩) hdr).trans CD.out; go_simp; rfl) ?_
        refine take_S 8 rfl (by kernel_rfl) (by kernel_rfl) hS0 (fun w' hS => by go_simp; rfl) ?_
        refine take_S 9 rfl (by kernel_rfl) (by kernel_rfl) hS0 (fun w' hS => by go_simp; rfl) ?_
        refine take_S 10 rfl (by kernel_rfl) (by kernel_rfl) hS0 (fun w' hS => by have A0 := (hS.cell (p := ⟨sg, so + k * 2, none⟩) hsr).trans Y0.out; have A1 := (hS.cell (p := ⟨sg, so + k * 2 + 1, none⟩) hsr).trans Y1.out; go_simp; rfl) ?_
        refine carry_S 11 rfl (by kernel_rfl) (by decide) (by kernel_rfl) (fun K hK => ?_)
        go_simp
        refine (HFD.out _ hS0).mono ?_
        rintro e w4 ⟨rfl, hbw4⟩
        have hS1 : Below wr.heap.size wr w4 := hS0.trans (hbw4.mono hS0.size)
        refine hK _ _ hS1 ?_
        clear hK K
        try simp only [Act.put, List.getElem_toArray, List.getElem_cons_succ, List.getElem_cons_zero, List.setIfInBounds_toArray, List.set_cons_zero, List.set_cons_succ]
        refine take_S 12 rfl (by kernel_rfl) (by kernel_rfl) hS1 (fun w' hS => by go_simp; rfl) ?_
        refine take_S 13 rfl (by kernel_rfl) (by kernel_rfl) hS1 (fun w' hS => by go_simp; rfl) ?_
        refine take_S 14 rfl (by kernel_rfl) (by kernel_rfl) hS1 (fun w' hS => by have A0 := (hS.cell (p := ⟨lg, j * 4 + 3, none⟩) hlr).trans TX.out; go_simp; rfl) (forced_S (by kernel_rfl) ?_)
        try simp only [Act.put, List.getElem_toArray, List.getElem_cons_succ, List.getElem_cons_zero, List.setIfInBounds_toArray, List.set_cons_zero, List.set_cons_succ]
        simp only [List.drop_succ_cons, List.drop_zero]
        have HBd := Lib.hid (HBr.out.trans (hS1.mono HBr.out.size))
        have HBdw := Lib.hid (HBw.out.trans (hS1.mono HBw.out.size))
        have hsum2 : ¬ ((bs (firstT L r.ids k)).size + (bs tx).size > 9223372036854775807) := by rw [bs_size, bs_size]; omega
        have hap := bs_appR (firstT L r.ids k) tx
        rw [← HFT.out] at hap
        clear hS0 hS1 hbw4 d3
        go_wp2
        go_roundg (r.ids.length - (k + 1))
        case measure => omega
        case rel => exact ⟨k + 1, by go_num, rfl, hkl, rfl, HBd⟩
      · obtain rfl : k = r.ids.length := by omega
        go_wp2
        refine bodyPost_ret (v := .tuple #[VT (firstT L r.ids r.ids.length), .int .i64 0]) (by simp [results, Tryz.results98, go_sem]) rfl ?_
        exact ⟨by rw [HQ.out], HBw.out⟩
end Go.Proofs.YtpanoplcamdnkaaGreatDoor

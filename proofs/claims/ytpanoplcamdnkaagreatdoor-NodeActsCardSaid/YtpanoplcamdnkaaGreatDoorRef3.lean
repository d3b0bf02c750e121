/- RnI, RnJ, RnK, RnL, RnM in one text. Conditions: as each part says. -/
import Derived.Test.YtpanoplcamdnkaaGreatDoorRef2
/- The reference's Node: one bin written; walk of Sweep. No conditions but bounds. -/
namespace Go.Proofs.YtpanoplcamdnkaaGreatDoor
open Go.RowKit Go.Lib Go.Maps

section
variable {n : Nat} {vf vb v' : Value} {E : REL} {G1 G2 : List RBE} {q : RBE} {L' : HldL} {w w' : World}
theorem nd_mid (hd : (blkN n vb (G1 ++ q :: G2)).Nodup) : (blkN n vb (G1 ++ G2)).Nodup ∧ q.rb ∉ blkN n vb (G1 ++ G2) ∧ ∀ k, q.v.ownBlock = some k → k ∉ blkN n vb (G1 ++ G2) := by
  have hp : (blkN n vb (G1 ++ q :: G2)).Perm ((q.rb :: q.v.ownBlock.toList) ++ blkN n vb (G1 ++ G2)) := by
    unfold blkN
    have h1 : (blkG (G1 ++ q :: G2)).Perm ((q.rb :: q.v.ownBlock.toList) ++ blkG (G1 ++ G2)) := List.Perm.flatMap_right (f := fun q : RBE => q.rb :: q.v.ownBlock.toList) List.perm_middle
    refine (List.Perm.cons n ((List.Perm.refl vb.ownBlock.toList).append h1)).trans ?_
    show ((n :: vb.ownBlock.toList) ++ ((q.rb :: q.v.ownBlock.toList) ++ blkG (G1 ++ G2))).Perm _
    exact List.perm_append_comm_assoc _ _ _
  rw [hp.nodup_iff, List.nodup_append] at hd
  obtain ⟨_, h2, h3⟩ := hd
  exact ⟨h2, fun hm => h3 q.rb List.mem_cons_self q.rb hm rfl, fun k e hm => h3 k (List.mem_cons_of_mem _ (Option.mem_toList.2 e)) k hm rfl⟩
theorem blk_more {k : Nat} (h : k ∈ blkN n vb (G1 ++ G2)) : k ∈ blkN n vb (G1 ++ q :: G2) := by
  rcases blk_iff.1 h with e | e | ⟨p, hp, e⟩
  · exact e ▸ blk_n
  · exact blk_vb e
  · refine blk_iff.2 (.inr (.inr ⟨p, ?_, e⟩))
    rcases List.mem_append.1 hp with hp | hp
    · exact List.mem_append_left _ hp
    · exact List.mem_append_right _ (List.mem_cons_of_mem _ hp)
/-- one bin is written -/
theorem ORN.one (h : ORN n vf vb E (G1 ++ q :: G2) w) (hr : RBin q.rb 0 v' L' w') (hv : ∀ k, v'.ownBlock = some k → w.heap.size ≤ k) (hf : BFrame q.rb q.v w w') : ORN n vf vb E (G1 ++ ⟨q.x, L', q.rb, v'⟩ :: G2) w' := by
  obtain ⟨d1, d2, d3⟩ := nd_mid h.nd
  have hq : q ∈ G1 ++ q :: G2 := List.mem_append_right _ List.mem_cons_self
  have hqb : q.rb ∈ blkN n vb (G1 ++ q :: G2) := blk_iff.2 (.inr (.inr ⟨q, hq, .inl rfl⟩))
  have hqv : ∀ k, q.v.ownBlock = some k → k ∈ blkN n vb (G1 ++ q :: G2) := fun k e => blk_iff.2 (.inr (.inr ⟨q, hq, .inr e⟩))
  have hst : ∀ k, k < w.heap.size → k ∈ blkN n vb (G1 ++ G2) → w'.heap[k]? = w.heap[k]? := fun k hk hm => hf.block k hk (fun e => d2 (e ▸ hm)) (fun e => d3 k e hm)
  have hrr : ∀ k, rR vf E k → k < w.heap.size → w'.heap[k]? = w.heap[k]? := fun k hk hl => hf.block k hl (fun e => h.ap k hk (e ▸ hqb)) (fun e => h.ap k hk (hqv k e))
  have hrow : rbRow (G1 ++ ⟨q.x, L', q.rb, v'⟩ :: G2) = rbRow (G1 ++ q :: G2) := by rw [rbRow_append, rbRow_append]; rfl
  have hlen : (G1 ++ (⟨q.x, L', q.rb, v'⟩ : RBE) :: G2).length = (G1 ++ q :: G2).length := by rw [List.length_append, List.length_append]; rfl
  have hbl := h.blk_lt (k := q.rb) hqb
  refine ⟨(hst n h.nlt blk_n).trans h.row, h.files.keepK hf.size fun k e h0 hl => hrr k (.inl ⟨e, List.ne_nil_of_length_pos h0⟩) hl, fun x hx => RdC.keepK (h.ids x hx) hf.size fun k e h0 hl => hrr k (.inr ⟨x, hx, e, List.ne_nil_of_length_pos h0⟩) hl, ?_, fun p hp => ?_, ?_, fun k hk hm => ?_⟩
  · rw [hrow, hlen]
    refine ⟨h.bins.1, ?_⟩
    rcases h.bins.2 with h3 | ⟨g, cap, cur, hvg, hg, hh, h4⟩
    · exact .inl h3
    · exact .inr ⟨g, cap, cur, hvg, hg, (hst g (Array.getElem?_eq_some_iff.1 hh).1 (blk_vb (by rw [hvg]; rfl))).trans hh, h4⟩
  · have hc : p = ⟨q.x, L', q.rb, v'⟩ ∨ p ∈ G1 ++ G2 := by
      rcases List.mem_append.1 hp with hp | hp
      · exact .inr (List.mem_append_left _ hp)
      · rcases List.mem_cons.1 hp with e | hp
        · exact .inl e
        · exact .inr (List.mem_append_right _ hp)
    rcases hc with rfl | hp
    · exact hr
    · have hp2 : p ∈ G1 ++ q :: G2 := by
        rcases List.mem_append.1 hp with hp | hp
        · exact List.mem_append_left _ hp
        · exact List.mem_append_right _ (List.mem_cons_of_mem _ hp)
      have hb := h.bin p hp2
      exact hb.keepK (hst p.rb hb.lt (blk_iff.2 (.inr (.inr ⟨p, hp, .inl rfl⟩)))) fun g e => hst g (own_ltN hb.own e) (blk_iff.2 (.inr (.inr ⟨p, hp, .inr e⟩)))
  · exact nd_put (G := G1 ++ G2) d1 (List.Sublist.refl _) (.inl rfl) d2 fun k e => ⟨fun hm => by have := h.blk_lt (blk_more (q := q) hm); have := hv k e; omega, fun e2 => by have := hv k e; have e2 : k = q.rb := e2; omega⟩
  · rcases blk_iff.1 hm with e | e | ⟨p, hp, e⟩
    · exact h.ap k hk (e ▸ blk_n)
    · exact h.ap k hk (blk_vb e)
    · rcases List.mem_append.1 hp with hp | hp
      · exact h.ap k hk (blk_iff.2 (.inr (.inr ⟨p, List.mem_append_left _ hp, e⟩)))
      · rcases List.mem_cons.1 hp with rfl | hp
        · rcases e with e | e
          · exact h.ap k hk (e ▸ hqb)
          · have := hv k e; have := h.rlt k hk; omega
        · exact h.ap k hk (blk_iff.2 (.inr (.inr ⟨p, List.mem_append_right _ (List.mem_cons_of_mem _ hp), e⟩)))
end
/-- how many bytes go -/
def goneB (L : HldL) : Int := sizeB (L.filter fun h => !usedB h)
def goneG (G : List RBE) : Int := (G.map fun q => goneB q.L).sum
theorem goneG_succ {G : List RBE} {k : Nat} (hk : k < G.length) : goneG (G.take (k + 1)) = goneG (G.take k) + goneB G[k].L := by
  unfold goneG
  rw [List.take_succ_eq_append_getElem hk, List.map_append, List.sum_append, List.map_cons, List.map_nil, List.sum_cons, List.sum_nil, Int.add_zero]
theorem goneG_bnd {G : List RBE} (h : ∀ q ∈ G, 0 ≤ goneB q.L ∧ goneB q.L ≤ 16000) : 0 ≤ goneG G ∧ goneG G ≤ 16000 * G.length := by
  unfold goneG
  induction G with
  | nil => simp
  | cons q r ih =>
    have h1 := ih (fun z hz => h z (List.mem_cons_of_mem _ hz))
    have h2 := h q List.mem_cons_self
    rw [List.map_cons, List.sum_cons, List.length_cons]
    omega
def swP (G : List RBE) : List (Idn × HldL) := alMap sweepB (G.map prG)
theorem swP_succ {G : List RBE} {k : Nat} (hk : k < G.length) : swP (G.take (k + 1)) = swP (G.take k) ++ [(G[k].x, sweepB G[k].L)] := by
  unfold swP alMap
  rw [List.take_succ_eq_append_getElem hk, List.map_append, List.map_append]; rfl
/-- k bins are swept -/
def SweptTo (n : Nat) (vf vb : Value) (E : REL) (G : List RBE) (k : Nat) (w wr : World) : Prop :=
  ∃ G1, ORN n vf vb E (G1 ++ G.drop k) wr ∧ G1.map prG = swP (G.take k) ∧ G1.length = k ∧ (∀ j ∈ blkN n vb (G1 ++ G.drop k), j ∈ blkN n vb G ∨ w.heap.size ≤ j) ∧ FrS (fun b => b ∈ blkN n vb G) w wr
theorem SweptTo.zero {n : Nat} {vf vb : Value} {E : REL} {G : List RBE} {w : World} (h : ORN n vf vb E G w) : SweptTo n vf vb E G 0 w w := ⟨[], by rwa [List.drop_zero, List.nil_append], rfl, rfl, fun j hj => .inl (by rwa [List.drop_zero, List.nil_append] at hj), FrS.refl _ _⟩
theorem SweptTo.next {n k : Nat} {vf vb v' : Value} {E : REL} {G G1 : List RBE} {w wr w' : World} (hk : k < G.length) (h1 : ORN n vf vb E (G1 ++ G.drop k) wr) (h2 : G1.map prG = swP (G.take k)) (h3 : G1.length = k) (h4 : ∀ j ∈ blkN n vb (G1 ++ G.drop k), j ∈ blkN n vb G ∨ w.heap.size ≤ j) (h5 : FrS (fun b => b ∈ blkN n vb G) w wr)
    (hr : RBin G[k].rb 0 v' (sweepB G[k].L) w') (hv : ∀ j, v'.ownBlock = some j → wr.heap.size ≤ j) (hf : BFrame G[k].rb G[k].v wr w') : SweptTo n vf vb E G (k + 1) w w' := by
  rw [List.drop_eq_getElem_cons hk] at h1 h4
  have hN := h1.one hr hv hf
  have e : G1 ++ (⟨G[k].x, sweepB G[k].L, G[k].rb, v'⟩ : RBE) :: G.drop (k + 1) = (G1 ++ [⟨G[k].x, sweepB G[k].L, G[k].rb, v'⟩]) ++ G.drop (k + 1) := by simp
  have hsz := h5.size
  have hqm : ∀ j, j = G[k].rb ∨ G[k].v.ownBlock = some j → j ∈ blkN n vb G ∨ w.heap.size ≤ j := fun j hj => h4 j (blk_iff.2 (.inr (.inr ⟨G[k], List.mem_append_right _ List.mem_cons_self, hj.imp Eq.symm id⟩)))
  refine ⟨G1 ++ [⟨G[k].x, sweepB G[k].L, G[k].rb, v'⟩], e ▸ hN, ?_, by rw [List.length_append, h3]; rfl, fun j hj => ?_, ?_⟩
  · rw [swP_succ hk, List.map_append, h2]; rfl
  · rw [← e] at hj
    rcases blk_iff.1 hj with e | e | ⟨p, hp, e⟩
    · exact .inl (e ▸ blk_n)
    · exact .inl (blk_vb e)
    · rcases List.mem_append.1 hp with hp | hp
      · exact h4 j (blk_iff.2 (.inr (.inr ⟨p, List.mem_append_left _ hp, e⟩)))
      · rcases List.mem_cons.1 hp with rfl | hp
        · rcases e with e | e
          · exact hqm j (.inl e.symm)
          · exact .inr (by have := hv j e; omega)
        · exact h4 j (blk_iff.2 (.inr (.inr ⟨p, List.mem_append_right _ (List.mem_cons_of_mem _ hp), e⟩)))
  · refine h5.trans (T := fun j => j = G[k].rb ∨ G[k].v.ownBlock = some j) ⟨hf.os, hf.tape, hf.output, hf.size, fun j hj hn => hf.block j hj (fun e => hn (.inl e)) (fun e => hn (.inr e))⟩ fun j hj => hqm j hj
theorem swept_cell {n k m c : Nat} {vf : Value} {A : Option Addr} {E : REL} {G G1 : List RBE} {wr : World} (hO : ORN n vf (.slice A m c) E (G1 ++ G.drop k) wr) (hL : G1.length = k) (hk : k < G.length) : ∃ g, A = some ⟨g, 0, none⟩ ∧ wr.cell? ⟨g, k * 3 + 2, none⟩ = some (.pointer (some ⟨G[k].rb, 0, none⟩)) := by
  obtain ⟨A2, c2, hA, _, hxc⟩ := hO.vbf
  have hlen : k < (G1 ++ G.drop k).length := by rw [List.length_append, List.length_drop, hL]; omega
  obtain ⟨g, hA2, hg, hcells⟩ := hxc (by omega)
  obtain ⟨_, _, x2⟩ := hcells k hlen
  have hgk : (G1 ++ G.drop k)[k]'hlen = G[k] := by
    rw [List.getElem_append_right (by omega)]
    simp [hL]
  rw [hgk] at x2
  injection hA with hA3 _ _
  exact ⟨g, hA3.trans hA2, x2⟩
def RSweepTo (n : Nat) (vf vb : Value) (E : REL) (G : List RBE) (w : World) (e : Ending) (w' : World) : Prop :=
  e = .returned (.int .i64 (goneG G)) ∧ RNTo n (rFoot n vf vb E G) (sweepN (plainR E G)) w w'
theorem SweptTo.done {n : Nat} {vf vb : Value} {E : REL} {G : List RBE} {w w' : World} (h : SweptTo n vf vb E G G.length w w') : RNTo n (rFoot n vf vb E G) (sweepN (plainR E G)) w w' := by
  obtain ⟨G1, h1, h2, _, h4, h5⟩ := h
  rw [List.drop_length, List.append_nil] at h1 h4
  rw [List.take_length] at h2
  exact ⟨vf, vb, E, G1, h1, by rw [plainR_eq, h2]; rfl, fun k => ⟨h4 k, .inl⟩, h5⟩
set_option maxRecDepth 100000 in
set_option maxHeartbeats 1000000 in
theorem RNSweep_raw (n : Nat) (vf vb : Value) (E : REL) (G : List RBE) (hl : G.length ≤ 1000) (hG : ∀ q ∈ G, BinOk 7500 q.L ∧ q.L.length ≤ 250) (w : World) (h : ORN n vf vb E G w) :
    Calls Tryz.prog 97 #[.pointer (some ⟨n, 0, none⟩)] w (RSweepTo n vf vb E G w) := by
  have hn := h.nlt
  have HN := Lib.hid h
  have HGG := Lib.hid hG
  have hgb : ∀ q ∈ G, 0 ≤ goneB q.L ∧ goneB q.L ≤ 16000 := fun q hq => by
    have h1 := freedB_bound (hG q hq).1 q.L.length
    have h2 := (hG q hq).2
    unfold freedB at h1
    rw [List.take_length] at h1
    unfold goneB
    omega
  have HGB := Lib.hid hgb
  obtain ⟨A, c, hvb, hcap, _⟩ := h.vbf
  subst hvb
  clear h hG hgb
  go_enter Tryz.func97, Tryz.ntmps97
  go_wp2
  go_loopg [3, 4] G.length (fun gh v3 v4 wr => ∃ k : Nat, v4 = .int .i64 k ∧ v3 = .int .i64 (goneG (G.take k)) ∧ k ≤ G.length ∧ gh = G.length - k ∧ Hid (SweptTo n vf (.slice A G.length c) E G k w wr))
  case atStart => exact ⟨0, rfl, rfl, Nat.zero_le _, rfl, Lib.hid (SweptTo.zero HN.out)⟩
  case round =>
    obtain ⟨k, rfl, rfl, hk, hgm, HS⟩ := hrel
    obtain ⟨G1, hO, hP1, hL1, hB1, hF1⟩ := HS.out
    have c1 := hO.c1
    by_cases hkl : k < G.length
    · obtain ⟨g, hA, x2⟩ := swept_cell hO hL1 hkl
      subst hA
      have b1 : (0 : Int) ≤ (k : Int) := by omega
      have b2 : (k : Int) < (G.length : Int) := by omega
      have hsb := goneG_bnd (G := G.take k) (fun q hq => HGB.out q (List.mem_of_mem_take hq))
      have hkt : (G.take k).length = k := by rw [List.length_take]; omega
      obtain ⟨hg3, hg4⟩ := HGB.out G[k] (List.getElem_mem hkl)
      have hq : RBin G[k].rb 0 G[k].v G[k].L wr := hO.bin G[k] (List.mem_append_right _ (by rw [List.drop_eq_getElem_cons hkl]; exact List.mem_cons_self))
      have HSW := Lib.hid (RBSweep_any G[k].rb 0 G[k].v G[k].L 7500 (HGG.out _ (List.getElem_mem hkl)).1 (by have := (HGG.out _ (List.getElem_mem hkl)).2; omega) wr (Nat.zero_le _) hq)
      have HNX := Lib.hid (fun v' w' => SweptTo.next (v' := v') (w' := w') hkl hO hP1 hL1 hB1 hF1)
      have HSS := Lib.hid (goneG_succ hkl)
      rw [hkt] at hsb
      unfold RSweepPost at HSW
      rw [show sizeB (G[k].L.filter fun h => !usedB h) = goneB G[k].L from rfl] at HSW
      generalize goneB G[k].L = z at *
      generalize goneG (G.take k) = s at *
      clear hq hO hP1 hB1 hF1 hkt hL1
      go_wp2_with fail
      refine HSW.out.mono ?_
      rintro e w3 ⟨v', rfl, hr, hv, hf⟩
      have HS3 := Lib.hid (HNX.out v' w3 hr hv hf)
      clear hr hv hf HSW HNX x2 c1
      go_wp2
      go_roundg (G.length - (k + 1))
      case measure => omega
      case rel => exact ⟨k + 1, by go_num, by rw [HSS.out], hkl, rfl, HS3⟩
    · obtain rfl : k = G.length := by omega
      have HTL : Hid (G.take G.length = G) := Lib.hid List.take_length
      clear hO hP1 hB1 hF1 hL1
      go_wp2
      go_ret
      exact ⟨by first | rfl | (rw [HTL.out]; rfl), HS.out.done⟩
end Go.Proofs.YtpanoplcamdnkaaGreatDoor
/- The reference's Node: laws for Drop: a file goes, a bin goes. No program in sight but worlds. -/
namespace Go.Proofs.YtpanoplcamdnkaaGreatDoor
open Go.RowKit Go.Lib Go.Maps

def delAt {α : Type} (k : Nat) (l : List α) : List α := l.take k ++ l.drop (k + 1)
theorem delAt_map {α β : Type} (f : α → β) (k : Nat) (l : List α) : (delAt k l).map f = delAt k (l.map f) := by unfold delAt; rw [List.map_append, List.map_take, List.map_drop]
theorem delAt_len {α : Type} {k : Nat} {l : List α} (h : k < l.length) : (delAt k l).length = 0 + k + (l.length - (k + 1)) := by unfold delAt; rw [List.length_append, List.length_take, List.length_drop]; omega
theorem delAt_sub {α : Type} (k : Nat) (l : List α) : (delAt k l).Sublist l := sub_take_drop l k
section
variable {K V : Type} [DecidableEq K] {lit : K → Lit} {lt : K → K → Bool} {ok okw : K → Prop}
theorem alDel_at (EM : KeyEmb lit lt ok okw) {k : K} : ∀ {L : List (K × V)} (_ : AlSrt lt L) {i : Nat} (hi : i < L.length) (_ : L[i].1 = k), alDel k L = delAt i L
  | [], _, i, hi, _ => absurd hi (Nat.not_lt_zero _)
  | y :: r, hs, 0, hi, he => by
    obtain ⟨h1, _⟩ := alSrt_cons.1 hs
    have he : y.1 = k := he
    have hr : alDel k r = r := alDel_none (alGet_none.2 fun p hp e => EM.ne (h1 p hp) (he.trans e.symm))
    have e2 : alDel k (y :: r) = alDel k r := by unfold alDel; simp [he]
    rw [e2, hr]; rfl
  | y :: r, hs, i + 1, hi, he => by
    obtain ⟨h1, h2⟩ := alSrt_cons.1 hs
    have he' : (r[i]'(by simpa using hi)).1 = k := he
    have hne : y.1 ≠ k := by
      have := h1 (r[i]'(by simpa using hi)) (List.getElem_mem _)
      rw [he'] at this
      exact EM.ne this
    have e2 : alDel k (y :: r) = y :: alDel k r := by unfold alDel; simp [hne]
    rw [e2, alDel_at EM h2 (by simpa using hi) he']; rfl
theorem alDel_set (EM : KeyEmb lit lt ok okw) {k : K} {v : V} {L : List (K × V)} (hs : AlSrt lt L) {i : Nat} (hi : i < L.length) (he : L[i].1 = k) : delAt i (alPut lt k v L) = alDel k L := by
  rw [alPut_found EM hs hi he, alDel_at EM hs hi he]
  unfold delAt
  rw [List.take_set_of_le (Nat.le_refl i), List.drop_set_of_lt (by omega)]
end
section
variable {n b k base : Nat} {vf vb v7 : Value} {E : REL} {G : List RBE} {w W w7 : World}
/-- a file goes -/
theorem ORN.delF (h : ORN n vf vb E G W) (hb : Below W.heap.size W w7) (hk : k < E.length) (ho : w7.ownsRow base 65 4 v7 (0 + k + (E.length - (k + 1))) (([] ++ (rcK.row E).take (k * 4)) ++ (rcK.row E).drop ((k + 1) * 4))) (hbase : W.heap.size ≤ base) : ORN n v7 vb (delAt k E) G (w7.setCell ⟨n, 0, none⟩ v7) ∧ (∀ j, v7.ownBlock = some j → W.heap.size ≤ j) ∧ FrS (fun b => b = n) W (w7.setCell ⟨n, 0, none⟩ v7) := by
  have hr : rcK.row (delAt k E) = ([] ++ (rcK.row E).take (k * 4)) ++ (rcK.row E).drop ((k + 1) * 4) := by
    unfold delAt
    rw [rcK.row_append, rcRow_take, rcRow_drop E (k + 1) (by omega), List.nil_append]
  rw [← delAt_len hk, ← hr] at ho
  refine ⟨h.setF hb ho hbase fun y hy => ?_, fun j e => Nat.le_trans hbase (own_ge ho e), hb.os, hb.tape, hb.output, by have := hb.size; simpa [World.setCell] using this, fun j hj hne => (set_keepB hne).trans (hb.block j hj)⟩
  have hm := (delAt_sub k E).mem hy
  exact ⟨h.ids y hm, fun j e ne => h.ap j (.inr ⟨y, hm, e, ne⟩)⟩
/-- a bin goes -/
theorem ORN.delG (h : ORN n vf vb E G W) (hb : Below W.heap.size W w7) (hk : k < G.length) (ho : w7.ownsRow base 172 3 v7 (0 + k + (G.length - (k + 1))) (([] ++ (rbRow G).take (k * 3)) ++ (rbRow G).drop ((k + 1) * 3))) (hbase : W.heap.size ≤ base) : ORN n vf v7 E (delAt k G) (w7.setCell ⟨n, 1, none⟩ v7) ∧ (∀ j, v7.ownBlock = some j → W.heap.size ≤ j) ∧ FrS (fun b => b = n) W (w7.setCell ⟨n, 1, none⟩ v7) := by
  have hr : rbRow (delAt k G) = ([] ++ (rbRow G).take (k * 3)) ++ (rbRow G).drop ((k + 1) * 3) := by
    unfold delAt
    rw [rbRow_append, rbRow_takeG, rbRow_dropG G (k + 1) (by omega), List.nil_append]
  rw [← delAt_len hk, ← hr] at ho
  have hge : ∀ j, v7.ownBlock = some j → W.heap.size ≤ j := fun j e => Nat.le_trans hbase (own_ge ho e)
  have hnl := h.nlt
  have hsub := delAt_sub k G
  have hw : ∀ j, j ≠ n → j < W.heap.size → (w7.setCell ⟨n, 1, none⟩ v7).heap[j]? = W.heap[j]? := fun j hj hl => (set_keepB hj).trans (hb.block j hl)
  have hz : W.heap.size ≤ (w7.setCell ⟨n, 1, none⟩ v7).heap.size := by have := hb.size; simpa [World.setCell] using this
  have hrr : ∀ j, rR vf E j → j < W.heap.size → (w7.setCell ⟨n, 1, none⟩ v7).heap[j]? = W.heap[j]? := fun j hj hl => hw j (fun e => h.ap j hj (e ▸ blk_n)) hl
  refine ⟨⟨?_, h.files.keepK hz fun j e h0 hl => hrr j (.inl ⟨e, List.ne_nil_of_length_pos h0⟩) hl, fun x hx => RdC.keepK (h.ids x hx) hz fun j e h0 hl => hrr j (.inr ⟨x, hx, e, List.ne_nil_of_length_pos h0⟩) hl, own_lower (own_setI ho (by omega)) (Nat.zero_le _), fun p hp => ?_, ?_, fun j hj hm => ?_⟩, hge, hb.os, hb.tape, hb.output, hz, fun j hj hne => hw j hne hj⟩
  · have := (h.below hb).row
    simp [World.setCell, Array.getElem?_modify, this]
  · have hp := hsub.mem hp
    obtain ⟨⟨a1, a2, _⟩, a3⟩ := h.bin_ap hp
    exact (h.bin p hp).keepK (hw _ a2 a1) fun g e => hw g (a3 g e).2.1 (a3 g e).1
  · have hd := h.nd
    unfold blkN at hd ⊢
    rw [List.nodup_cons, List.nodup_append] at hd
    obtain ⟨d1, _, d3, _⟩ := hd
    have hX : (blkG (delAt k G)).Sublist (blkG G) := sub_flat _ hsub
    rw [List.nodup_cons, List.nodup_append]
    have hlt : ∀ j, j ∈ blkG G → j < W.heap.size := fun j hj => h.blk_lt (blk_G hj)
    refine ⟨fun hm => ?_, by cases v7.ownBlock <;> simp, d3.sublist hX, fun a ha c hc e => ?_⟩
    · rcases List.mem_append.1 hm with hm | hm
      · have := hge n (Option.mem_toList.1 hm); omega
      · exact d1 (List.mem_append_right _ (hX.mem hm))
    · subst e
      have := hge a (Option.mem_toList.1 ha)
      have := hlt a (hX.mem hc)
      omega
  · rcases blk_iff.1 hm with e | e | ⟨p, hp, e⟩
    · exact h.ap j hj (e ▸ blk_n)
    · have := hge j e; have := h.rlt j hj; omega
    · exact h.ap j hj (blk_iff.2 (.inr (.inr ⟨p, hsub.mem hp, e⟩)))
end
/-! ### dropping uses -/
theorem dropAll_drop {ids : IdL} {k : Nat} (hk : k < ids.length) (L : HldL) : dropAll (ids.drop k) L = if (dropB ids[k] L).2 = 0 then dropAll (ids.drop (k + 1)) (dropB ids[k] L).1 else dropB ids[k] L := by
  rw [List.drop_eq_getElem_cons hk, dropAll]
theorem ofE_any {x : Idn} {E : REL} : (ofE x E).length = 0 ↔ (E.map fxE).any (fun q => decide (repR q.2 = x)) = false := by
  unfold ofE
  rw [List.length_map, List.length_eq_zero_iff, List.filter_eq_nil_iff, List.any_map, List.any_eq_false]
  exact Iff.rfl
theorem drop_mid {n b m k base : Nat} {vf vb v v7 : Value} {E : REL} {G : List RBE} {x : Idn} {L : HldL} {w wr w8 : World} (h : ORN n vf vb E G w) (hb : Below w.heap.size w wr) (hm : w.heap.size ≤ m) (hmb : m ≤ b) (hR : RBin b base v L wr) (hv : ∀ k, v.ownBlock = some k → m ≤ k) (h7 : ∀ j, v7.ownBlock = some j → wr.heap.size ≤ j) (hf : FrS (fun b => b = n) wr w8) :
    RBin b 0 v L w8 ∧ QAp ⟨x, L, b, v⟩ n v7 vb (delAt k E) G := by
  have hnl := h.nlt
  have hlt : ∀ j, j ∈ blkN n vb G → j < w.heap.size := fun j hj => h.blk_lt hj
  refine ⟨hR.low.keepK (hf.block b hR.lt (by omega)) fun g e => hf.block g (own_ltN hR.own e) (by have := hv g e; omega), fun hm => by have := hlt b hm; omega, fun j e hj => by have := hlt j hj; have := hv j e; omega, fun j hj => ?_⟩
  have hj2 : j < m ∨ wr.heap.size ≤ j := by
    rcases hj with ⟨e, _⟩ | ⟨y, hy, e, ne⟩
    · exact .inr (h7 j e)
    · have := h.rlt j (.inr ⟨y, (delAt_sub k E).mem hy, e, ne⟩)
      exact .inl (by omega)
  have hbl := hR.lt
  exact ⟨fun e => by have e : j = b := e; omega, fun e => by have := hv j e; have := own_ltN hR.own e; omega⟩
/-- the new node, for a frame -/
theorem drop_foot {n k : Nat} {vf vb v7 vb' : Value} {E : REL} {G G' : List RBE} {B : Nat} (hS : ∀ j ∈ blkN n vb' G', j ∈ blkN n vb G ∨ B ≤ j) (h7 : ∀ j, v7.ownBlock = some j → B ≤ j) : (rFoot n vf vb E G).new (rFoot n v7 vb' (delAt k E) G') B := fun j => ⟨hS j, fun hj => by
  rcases hj with ⟨e, _⟩ | ⟨y, hy, e, ne⟩
  · exact .inr (h7 j e)
  · exact .inl (.inr ⟨y, (delAt_sub k E).mem hy, e, ne⟩)⟩
/-- a file is gone, its bin is the new one -/
structure Dropped (n k i : Nat) (vf vb v7 : Value) (E : REL) (G G' : List RBE) (x : Idn) (L : HldL) (w w' : World) : Prop where
  node : ORN n v7 vb (delAt k E) G' w'
  bins : G'.map prG = alPut lesser x L (G.map prG)
  blk : ∀ j ∈ blkN n vb G', j ∈ blkN n vb G ∨ w.heap.size ≤ j
  own : ∀ j, v7.ownBlock = some j → w.heap.size ≤ j
  fr : FrS (fun b => b ∈ blkN n vb G) w w'
theorem dropped {n k i b g c : Nat} {vf v v7 : Value} {E : REL} {G : List RBE} {x : Idn} {L : HldL} {w wr w8 : World} (h : ORN n vf (.slice (some ⟨g, 0, none⟩) G.length c) E G w) (hs : AlSrt lesser (G.map prG)) (hb : Below w.heap.size w wr) (hB : w.heap.size ≤ b) (hv : ∀ j, v.ownBlock = some j → w.heap.size ≤ j) (hN : ORN n v7 (.slice (some ⟨g, 0, none⟩) G.length c) (delAt k E) G w8) (h7 : ∀ j, v7.ownBlock = some j → wr.heap.size ≤ j) (hf : FrS (fun b => b = n) wr w8) (hi : i < G.length) (hx : G[i].x = x) (hR : RBin b 0 v L w8) (ha : QAp ⟨x, L, b, v⟩ n v7 (.slice (some ⟨g, 0, none⟩) G.length c) (delAt k E) G) :
    ∃ G', Dropped n k i vf (.slice (some ⟨g, 0, none⟩) G.length c) v7 E G G' x L w (w8.setCell ⟨g, i * 3 + 2, none⟩ (.pointer (some ⟨b, 0, none⟩))) ∧ G'.length = G.length := by
  have hS := set_found (q := ⟨x, L, b, v⟩) hN hs (Below.refl _ _) hi hx hR ha
  obtain ⟨_, vb', G', hN9, hp, hbl, hfr⟩ := hS
  have hgn : g ≠ n := h.vb_ne rfl
  have e1 : (w8.setCell ⟨g, i * 3 + 2, none⟩ (.pointer (some ⟨b, 0, none⟩))).cell? ⟨n, 1, none⟩ = w8.cell? ⟨n, 1, none⟩ := World.cell?_of_block (a := ⟨n, 1, none⟩) (set_keepB (Ne.symm hgn))
  have hvb : vb' = .slice (some ⟨g, 0, none⟩) G.length c := by
    have h1 := hN9.c1
    rw [e1, hN.c1] at h1
    injection h1 with h1; exact h1.symm
  subst hvb
  have hs8 := hf.size
  have hsr := hb.size
  have hlen : G'.length = G.length := by
    have := congrArg List.length hp
    rw [List.length_map, alPut_found idEmb hs (i := i) (by rw [List.length_map]; exact hi) (by rw [List.getElem_map]; exact hx), List.length_set, List.length_map] at this
    exact this
  refine ⟨G', ⟨hN9, hp, fun j hj => ?_, fun j e => Nat.le_trans hsr (h7 j e), ?_⟩, hlen⟩
  · rcases hbl j hj with h3 | h3 | h3 | h3
    · exact .inl h3
    · exact .inr (by have h3 : j = b := h3; omega)
    · exact .inr (hv j h3)
    · exact .inr (by omega)
  · exact ((FrS.of_below (S := fun b => b ∈ blkN n (.slice (some ⟨g, 0, none⟩) G.length c) G) hb).trans hf fun j hj => .inl (hj ▸ blk_n)).trans hfr fun j hj => .inl hj
theorem Dropped.keepTo {n k i : Nat} {vf vb v7 : Value} {E : REL} {G G' : List RBE} {x : Idn} {L : HldL} {w w9 w' : World} (h : Dropped n k i vf vb v7 E G G' x L w w9) (hb : Below w9.heap.size w9 w') (ha : ((delAt k E).map fxE).any (fun q => decide (repR q.2 = x)) = true) :
    RNTo n (rFoot n vf vb E G) ⟨(delAt k E).map fxE, tidyN ((delAt k E).map fxE) x L (G.map prG)⟩ w w' :=
  ⟨v7, vb, _, G', h.node.below hb, by rw [plainR_eq, h.bins]; unfold tidyN; rw [if_pos ha], drop_foot h.blk h.own, h.fr.thenB hb⟩
theorem Dropped.delTo {n k i base : Nat} {vf vb v7 v8 : Value} {E : REL} {G G' : List RBE} {x : Idn} {L : HldL} {w w9 wr w7 : World} (h : Dropped n k i vf vb v7 E G G' x L w w9) (hs : AlSrt lesser (G.map prG)) (hl : G'.length = G.length) (hi : i < G.length) (hx : G[i].x = x) (hb : Below w9.heap.size w9 wr) (hb7 : Below wr.heap.size wr w7) (ho : w7.ownsRow base 172 3 v8 (0 + i + (G.length - (i + 1))) (([] ++ (rbRow G').take (i * 3)) ++ (rbRow G').drop ((i + 1) * 3))) (hbase : wr.heap.size ≤ base)
    (ha : ((delAt k E).map fxE).any (fun q => decide (repR q.2 = x)) = false) : RNTo n (rFoot n vf vb E G) ⟨(delAt k E).map fxE, tidyN ((delAt k E).map fxE) x L (G.map prG)⟩ w (w7.setCell ⟨n, 1, none⟩ v8) := by
  rw [← hl] at ho
  obtain ⟨h1, h2, h3⟩ := (h.node.below hb).delG hb7 (by omega) ho hbase
  have hsz := h.fr.size
  have hsz2 := hb.size
  refine ⟨v7, v8, _, delAt i G', h1, ?_, drop_foot (fun j hj => ?_) h.own, (h.fr.thenB hb).trans h3 fun j hj => .inl (hj ▸ blk_n)⟩
  · rw [plainR_eq, delAt_map prG i G', h.bins, alDel_set idEmb hs (by rw [List.length_map]; exact hi) (by rw [List.getElem_map]; exact hx)]
    unfold tidyN
    rw [if_neg (by rw [ha]; simp)]
  · rcases blk_iff.1 hj with e | e | ⟨p, hp, e⟩
    · exact .inl (e ▸ blk_n)
    · exact .inr (by have := h2 j e; omega)
    · exact h.blk j (blk_iff.2 (.inr (.inr ⟨p, (delAt_sub i G').mem hp, e⟩)))
def RDropTo (n : Nat) (vf vb : Value) (nm : Bytes) (E : REL) (G : List RBE) (w : World) (e : Ending) (w' : World) : Prop :=
  e = .returned (.int .i64 (dropN nm (plainR E G)).2) ∧ RNTo n (rFoot n vf vb E G) (dropN nm (plainR E G)).1 w w'
end Go.Proofs.YtpanoplcamdnkaaGreatDoor
/- The reference's Node: walk of Drop. No conditions but bounds. -/
namespace Go.Proofs.YtpanoplcamdnkaaGreatDoor
open Go.RowKit Go.Lib Go.Maps

set_option maxRecDepth 100000 in
set_option maxHeartbeats 2000000 in
theorem RNDrop_raw (n : Nat) (vf vb : Value) (E : REL) (G : List RBE) (hP : NodeOk (plainR E G)) (nm : Bytes) (w : World) (h : ORN n vf vb E G w) :
    Calls Tryz.prog 96 #[.pointer (some ⟨n, 0, none⟩), VT nm] w (RDropTo n vf vb nm E G w) := by
  obtain ⟨i0, hi, hz0, hz1, hz2⟩ := info_parts info_rcp
  obtain ⟨j0, hj, hy0, hy1, hy2⟩ := info_parts info_rrep
  have hE30 : E.length ≤ 30 := by have := hP.flen; rw [plainR_eq, List.length_map] at this; exact this
  have hG30 : G.length ≤ 30 := by have := hP.blen; rw [plainR_eq, List.length_map, List.length_map] at this; omega
  have HPK := Lib.hid hP
  have HIDS : Hid (∀ q ∈ E, q.1.ids.length ≤ 1000000) := Lib.hid (fun q hq => by have := hP.ids (fxE q) (List.mem_map_of_mem (f := fxE) hq); have h2 : (fxE q).2.ids = q.1.ids := rfl; rw [h2] at this; omega)
  have HN := Lib.hid h
  have hn := h.nlt
  have HFIND := Lib.hid (RNFind_raw n vf vb E G (by omega) nm w h)
  have c0 := h.c0
  obtain ⟨A, c, hvf, hcap, hx⟩ := h.vff
  subst hvf
  have HX := Lib.hid hx
  obtain ⟨BA, bc, hvb, hbcap, hbx⟩ := h.vbf
  subst hvb
  have HBX := Lib.hid hbx
  clear hx h hP hbx
  go_enter Tryz.func96, Tryz.ntmps96
  go_wp2_with fail
  refine HFIND.out.mono ?_
  rintro e w0 ⟨rfl, rfl⟩
  rcases ixP_cases (fun x : Rcp × Value => decide (x.1.name = nm)) E with ⟨hix, hno⟩ | ⟨k, hk, hix, hy⟩
  · rw [hix]
    have HG0 := Lib.hid (getE_none (E := E) (nm := nm) (fun j hj => of_decide_eq_false (hno j hj)))
    have HQ : Hid (dropN nm (plainR E G) = (plainR E G, 5)) := Lib.hid (by unfold dropN; rw [show alGet (plainR E G).files nm = none from HG0.out])
    clear hix hno
    go_wp2
    refine bodyPost_ret (v := .int .i64 5) (by simp [results, Tryz.results96, go_sem]) rfl ?_
    exact ⟨by rw [HQ.out], by rw [HQ.out]; exact RNTo.stay HN.out (Below.refl _ _)⟩
  · rw [hix]
    obtain ⟨g, o, rfl, hg, hcells⟩ := HX.out (by omega)
    obtain ⟨x0, x1, x2, x3⟩ := hcells k hk
    have hge : ¬ ((k : Nat) : Int) < 0 := by omega
    have b1 : (0 : Int) ≤ (k : Int) := by omega
    have b2 : (k : Int) < (E.length : Int) := by omega
    obtain ⟨i, hi', hxi, hixg, hall, hbok, hblen, hbn, hil⟩ := HPK.out.binAt hk
    have hgf := getE_some HPK.out.fsrt hk (of_decide_eq_true hy)
    have HD0 := Lib.hid (HPK.out.drops hgf).1
    rw [show repR E[k].1 = repOf E[k].1.ids from rfl, hbn] at HD0
    have HDEL : Hid ((delAt k E).map fxE = alDel nm (E.map fxE)) := Lib.hid (by rw [delAt_map, alDel_at strEmb (L := E.map fxE) (k := nm) HPK.out.fsrt (i := k) (by rw [List.length_map]; exact hk) (by simpa [fxE] using hy)])
    have HQ : Hid (dropN nm (plainR E G) = (⟨(delAt k E).map fxE, tidyN ((delAt k E).map fxE) (repOf E[k].1.ids) (dropAll E[k].1.ids G[i].L).1 (G.map prG)⟩, 0)) := Lib.hid (by
      rw [HDEL.out]
      unfold dropN
      rw [show alGet (plainR E G).files nm = some E[k].1 from hgf]
      simp only
      rw [show repR E[k].1 = repOf E[k].1.ids from rfl, hbn]; rfl)
    have hsl := HN.out.ids E[k] (List.getElem_mem hk)
    have HIL := Lib.hid hil
    have HBOK := Lib.hid hbok
    have HBL := Lib.hid hblen
    have HRB := Lib.hid (HN.out.bin G[i] (List.getElem_mem hi'))
    have HFB : Hid (∀ w', Below w.heap.size w w' → Calls Tryz.prog 53 #[.pointer (some ⟨n, 0, none⟩), idV (repOf E[k].1.ids)] w' fun e w'' => e = .returned (.int .i64 (i : Int)) ∧ Below w'.heap.size w' w'') := Lib.hid (fun w' hb => by
      have := RNFindB_raw n _ _ E G (by omega) (repOf E[k].1.ids) w' (HN.out.below hb)
      rwa [hixg] at this)
    obtain ⟨bg, hbg, hbgl, hbcells⟩ := HBX.out (by omega)
    subst hbg
    obtain ⟨_, _, z2⟩ := hbcells i hi'
    have Z2 := Lib.hid z2
    have HXI := Lib.hid hxi
    have bi1 : (0 : Int) ≤ (i : Int) := by omega
    have bi2 : (i : Int) < (G.length : Int) := by omega
    clear hix hy hcells hixg hall hbok hblen hbn hil hbcells z2 hxi hgf
    obtain ⟨r, sl, hrq⟩ : ∃ r sl, E[k] = (r, sl) := ⟨_, _, rfl⟩
    rw [hrq] at x0 x1 x2 x3 hsl HIL HFB HQ HD0 HXI
    simp only at x0 x1 x2 x3 hsl HIL HFB HQ HD0 HXI
    obtain ⟨SA, sc, hsv, hsc, hscells⟩ := hsl.form
    subst hsv
    have HSL := Lib.hid hsl
    have HSC := Lib.hid hscells
    have HREP : Hid (∀ w', Below w.heap.size w w' → Calls Tryz.prog 138 #[.agg #[VT r.name, .int .i64 r.len, .int .u32 (r.print : Int), .slice SA r.ids.length sc]] w' fun e w'' => e = .returned (idV (repOf r.ids)) ∧ Below w'.heap.size w' w'') := Lib.hid (fun w' hb => RRepOf_any _ r (by have := HIL.out; omega) w' ⟨_, rfl, (HSL.out.keep hb (Nat.le_refl _)).more hb.size⟩)
    obtain ⟨rep, hrep⟩ : ∃ rep, rep = repOf r.ids := ⟨_, rfl⟩
    rw [← hrep] at HREP HFB HQ HXI
    clear hsl hscells hrep
    obtain ⟨L, hL⟩ : ∃ L, L = G[i].L := ⟨_, rfl⟩
    obtain ⟨rb, hrb⟩ : ∃ rb, rb = G[i].rb := ⟨_, rfl⟩
    rw [← hL] at HBOK HBL HRB HD0 HQ
    rw [← hrb] at Z2 HRB
    have HGR : Hid (G[i].rb = rb) := Lib.hid hrb.symm
    clear hrb hL
    have hb1 : Below w.heap.size w (w.alloc (.cells #[VT r.name, .int .i64 r.len, .int .u32 (r.print : Int), .slice SA r.ids.length sc] 65)) := (Below.refl _ _).alloc (Nat.le_refl _) _
    have HB1 := Lib.hid hb1
    have BX1 := Lib.hid (Box4.mk' w (VT r.name) (.int .i64 r.len) (.int .u32 (r.print : Int)) (.slice SA r.ids.length sc) 65)
    obtain ⟨a0, a1, a2, a3, _⟩ := BX1.out
    clear hb1
    go_wp2_with fail
    refine (HREP.out _ HB1.out).mono ?_
    rintro e w2 ⟨rfl, hb2⟩
    have HB2 := Lib.hid (HB1.out.trans (hb2.mono HB1.out.size))
    have BX12 := Lib.hid (BX1.out.below hb2 BX1.out.lt)
    have hb3 : Below w2.heap.size w2 (w2.alloc (.cells #[.int .u32 (rep.1 : Int), .int .i64 rep.2] 47)) := (Below.refl _ _).alloc (Nat.le_refl _) _
    have HB3 := Lib.hid (HB2.out.trans (hb3.mono HB2.out.size))
    have BX13 := Lib.hid (BX12.out.below hb3 BX12.out.lt)
    have BX23 := Lib.hid (Box2.mk' w2 (.int .u32 (rep.1 : Int)) (.int .i64 rep.2) 47)
    obtain ⟨z0, z1, _, _⟩ := BX23.out
    have HM : Hid (w.heap.size < w2.heap.size) := Lib.hid (BX12.out.lt)
    clear hb2 hb3 a0 a1 a2 a3 c0 x0 x1 x2 x3
    go_wp2_with fail
    refine (HFB.out _ HB3.out).mono ?_
    rintro e w4 ⟨rfl, hb4⟩
    have HB4 := Lib.hid (HB3.out.trans (hb4.mono HB3.out.size))
    have BX14 := Lib.hid (BX13.out.below hb4 BX13.out.lt)
    have BX24 := Lib.hid (BX23.out.below hb4 BX23.out.lt)
    have hsz4 := BX24.out.lt
    have c1 := (HB4.out.cell (p := ⟨n, 1, none⟩) hn).trans HN.out.c1
    have z2 := (HB4.out.cell (p := ⟨bg, i * 3 + 2, none⟩) hbgl).trans Z2.out
    have HCP := Lib.hid (RBCopy_raw rb 0 _ L (by have := HBL.out; omega) w4 (HRB.out.below HB4.out))
    clear hb4 z0 z1
    go_wp2_with fail
    refine HCP.out.mono ?_
    rintro e w7 ⟨b, v0, rfl, hR7, hbb7, hb7⟩
    have HR7 := Lib.hid hR7.low
    have HB7 := Lib.hid (HB4.out.trans (hb7.mono HB4.out.size))
    have BX17 := Lib.hid (BX14.out.below hb7 BX14.out.lt)
    have BX27 := Lib.hid (BX24.out.below hb7 BX24.out.lt)
    have HBB : Hid (w2.heap.size < b ∧ b < w7.heap.size) := Lib.hid ⟨by omega, hR7.lt⟩
    have HBV : Hid (∀ j, v0.ownBlock = some j → w2.heap.size < j ∧ j < w7.heap.size) := Lib.hid (fun j e => ⟨by have := own_ge hR7.own e; omega, own_ltN hR7.own e⟩)
    clear hR7 hbb7 hb7 z2 HCP c1 hsz4
    go_wp2
    go_loopg [10] r.ids.length (fun gh v10 wr => ∃ (k : Nat) (L' : HldL), v10 = .int .i64 k ∧ k ≤ r.ids.length ∧ gh = r.ids.length - k ∧ Hid (dropAll r.ids L = dropAll (r.ids.drop k) L') ∧ Hid (RBin b 0 v0 L' wr) ∧ Hid (BFrame b v0 w7 wr) ∧ Hid (BinOk 7500 L' ∧ L'.length ≤ 250))
    case atStart => exact ⟨0, L, rfl, Nat.zero_le _, rfl, Lib.hid (by rw [List.drop_zero]), HR7, Lib.hid ⟨rfl, rfl, rfl, Nat.le_refl _, fun _ _ _ _ => rfl⟩, Lib.hid ⟨HBOK.out, HBL.out⟩⟩
    case round =>
      obtain ⟨d, L', rfl, hd, hgm, HDA, HBIN, HFR, HOK⟩ := hrel
      have HBr : Hid (Below w.heap.size w wr) := Lib.hid (HFR.out.below' HB7.out HB7.out.size (by have := HBB.out; have := HM.out; omega) (fun j e => by have := HBV.out j e; have := HM.out; omega))
      have BX1r := Lib.hid (box4_blk BX17.out (HFR.out.block _ BX17.out.lt (by have := HBB.out; have := HM.out; omega) (fun e => by have := HBV.out _ e; have := HM.out; omega)))
      have BX2r := Lib.hid (box2_blk BX27.out (HFR.out.block _ BX27.out.lt (by have := HBB.out; omega) (fun e => by have := HBV.out _ e; omega)))
      have d3 := BX1r.out.c3
      have hil := HIL.out
      by_cases hdl : d < r.ids.length
      · obtain ⟨sg, so, rfl, hsg, hscc⟩ := HSC.out (by omega)
        obtain ⟨y0, y1⟩ := hscc d hdl
        have u0 := (HBr.out.cell (p := ⟨sg, so + d * 2, none⟩) hsg).trans y0
        have u1 := (HBr.out.cell (p := ⟨sg, so + d * 2 + 1, none⟩) hsg).trans y1
        have bd1 : (0 : Int) ≤ (d : Int) := by omega
        have bd2 : (d : Int) < (r.ids.length : Int) := by omega
        have HBD := Lib.hid (RBDrop_any b 0 v0 L' 7500 (by omega) HOK.out.1 (by have := HOK.out.2; omega) r.ids[d] wr HBIN.out)
        have HD1 : Hid ((dropB r.ids[d] L').2 = 0 ∧ dropAll r.ids L = dropAll (r.ids.drop (d + 1)) (dropB r.ids[d] L').1) := Lib.hid (by
          have e := HDA.out.trans (dropAll_drop hdl L')
          by_cases h0 : (dropB r.ids[d] L').2 = 0
          · rw [if_pos h0] at e; exact ⟨h0, e⟩
          · rw [if_neg h0] at e
            have := HD0.out
            rw [e] at this; exact absurd this h0)
        have HOK1 : Hid (BinOk 7500 (dropB r.ids[d] L').1 ∧ (dropB r.ids[d] L').1.length ≤ 250) := Lib.hid ⟨binOk_drop HOK.out.1 _, by rw [length_drop HOK.out.1.srt]; exact HOK.out.2⟩
        generalize r.ids[d] = x at *
        clear y0 y1 hscc
        go_wp2_with fail
        refine HBD.out.mono ?_
        rintro e w9 ⟨rfl, hR9, hf9⟩
        have HR9 := Lib.hid hR9
        have HF9 := Lib.hid (BFrame.trans' HFR.out hf9 (.inl rfl))
        clear hR9 hf9 HBD u0 u1
        go_wp2
        go_roundg (r.ids.length - (d + 1))
        case measure => omega
        case rel => exact ⟨d + 1, (dropB x L').1, by go_num, hdl, rfl, Lib.hid HD1.out.2, HR9, HF9, HOK1⟩
      · obtain rfl : d = r.ids.length := by omega
        have HDF : Hid (dropAll r.ids L = (L', 0)) := Lib.hid (by rw [HDA.out, List.drop_of_length_le (Nat.le_refl _), dropAll])
        have HNr := Lib.hid (HN.out.below HBr.out)
        have HRC : Hid (RdC wr wr.heap.size 4 (.slice (some ⟨g, o, none⟩) E.length c) E.length (rcK.row E)) := Lib.hid HNr.out.files
        have HT1 : Hid (RdC wr wr.heap.size 4 (.slice (some ⟨g, o, none⟩) k c) k ((rcK.row E).take (k * 4))) := Lib.hid (HRC.out.takeM k (by omega))
        have HO1 : Hid (∀ u ∈ (rcK.row E).take (k * 4), u.oneCell' = true) := Lib.hid (fun u hu => rcRow_one HNr.out.ids u (List.mem_of_mem_take hu))
        have HO3 : Hid (∀ u ∈ (rcK.row E).drop ((k + 1) * 4), u.oneCell' = true) := Lib.hid (fun u hu => rcRow_one HNr.out.ids u (List.mem_of_mem_drop hu))
        have q2 : (k : Int) ≤ (E.length : Int) := by omega
        have q3 : (k : Int) ≤ (c : Int) := by omega
        have q4 : (0 : Int) ≤ (k : Int) + 1 := by omega
        have q5 : (k : Int) + 1 ≤ (E.length : Int) := by omega
        have q6 : (k : Int) + 1 ≤ (c : Int) := by omega
        have q7 : IntKind.i64.wrap ((k : Int) + 1) = (k : Int) + 1 := IntWalk.i64_in _ (by omega)
        have hnl : n < wr.heap.size := HNr.out.nlt
        have nc0 := HNr.out.c0
        clear HDA
        have HZ8 : Hid (∀ (w8 : World) (v7 : Value), ORN n v7 (.slice (some ⟨bg, 0, none⟩) G.length bc) (delAt k E) G w8 → w8.cell? ⟨bg, i * 3 + 2, none⟩ = some (.pointer (some ⟨rb, 0, none⟩)) ∧ w8.frozen? ⟨bg, i * 3 + 2, none⟩ = false) := Lib.hid (fun w8 v7 h8 => by
          obtain ⟨_, _, hv, _, hx⟩ := h8.vbf
          injection hv with hA _ _
          obtain ⟨g2, hA2, _, hcc⟩ := hx (by omega)
          rw [← hA] at hA2
          injection hA2 with hA2
          injection hA2 with hA2
          subst hA2
          exact ⟨by rw [(hcc i hi').2.2, HGR.out], h8.bins.frozenAt (i * 3 + 2)⟩)
        have HY9 : Hid (∀ (w7 : World) (v7 : Value), Below wr.heap.size wr w7 → (w7.setCell ⟨n, 0, none⟩ v7).cell? ⟨w2.heap.size, 0, none⟩ = some (.int .u32 (rep.1 : Int)) ∧ (w7.setCell ⟨n, 0, none⟩ v7).cell? ⟨w2.heap.size, 1, none⟩ = some (.int .i64 rep.2)) := Lib.hid (fun w7 v7 hb => by
          have hB := box2_blk (w' := w7.setCell ⟨n, 0, none⟩ v7) BX2r.out ((set_keepB (by have := HM.out; omega)).trans (hb.block _ BX2r.out.lt))
          exact ⟨hB.c0, hB.c1⟩)
        by_cases hc1 : c = k + 1
        · subst hc1
          have hEl : E.length - (k + 1) = 0 := by omega
          have HO4 : Hid (∀ u ∈ ([] : List Value), u.oneCell' = true) := Lib.hid (fun u hu => absurd hu List.not_mem_nil)
          have HD8 : Hid (∀ (w7 : World) (v7 : Value), w7.ownsRow wr.heap.size 65 4 v7 k (([] ++ (rcK.row E).take (k * 4)) ++ []) → Below wr.heap.size wr w7 → _) := Lib.hid (fun w7 v7 ho hb => HNr.out.delF (v7 := v7) hb hk (by rw [List.drop_of_length_le (show (rcK.row E).length ≤ (k + 1) * 4 by rw [rcK.row_length, show rcK.n = 4 from rfl]; omega), hEl, Nat.zero_add, Nat.add_zero]; exact ho) (Nat.le_refl _))
          go_wp2_with (first | (at_builtin; refine wpList_append_rdM rfl (.tmp 53) (.tmp 59) 61 rfl wr.heap.size 65 i0 (.agg #[.string ByteArray.empty, .int .i64 0, .int .u32 0, .slice none 0 0]) 4 56 Tryz.underlying61 hi hz0 hz1 hz2 rfl (by decide) _ 0 [] rfl (World.ownsRow_nil _ _ _ _) wr.heap.size _ k ((rcK.row E).take (k * 4)) rfl HT1.out HO1.out (by unfold maxLen; omega) (by omega) (Nat.le_refl _) ?_; intro v5 w5 ho5 hg5; have hS5 : Below wr.heap.size wr w5 := below_grownP (Below.refl _ _) (Nat.le_refl _) (World.ownsRow_nil wr wr.heap.size 65 4) hg5; have nc5 := (hS5.cell (p := ⟨n, 0, none⟩) hnl).trans nc0) | (at_builtin; refine wpList_append_rdM rfl (.tmp 62) (.tmp 69) 61 rfl wr.heap.size 65 i0 (.agg #[.string ByteArray.empty, .int .i64 0, .int .u32 0, .slice none 0 0]) 4 56 Tryz.underlying61 hi hz0 hz1 hz2 rfl (by decide) _ _ _ rfl ho5 wr.heap.size _ 0 [] rfl (RdC.nilP _ _ _ _ _) HO4.out (by unfold maxLen; omega) (by omega) hS5.size ?_; intro v7 w7 ho7 hg7; have hS7 : Below wr.heap.size wr w7 := below_grownP hS5 hS5.size ho5 hg7; have ho8 : w7.ownsRow wr.heap.size 65 4 v7 k (([] ++ (rcK.row E).take (k * 4)) ++ []) := (by simpa only [Nat.zero_add, Nat.add_zero] using ho7); obtain ⟨A7, c7, hv7⟩ := own_formI ho8; subst hv7; have hrow7 := (hS7.block n hnl).trans HNr.out.row; have d0 := cell_of_row w7 n 0 _ _ _ hrow7; have e0 := frozen_of_row w7 n 0 _ _ hrow7; have HX8 := HD8.out _ _ ho8 hS7; have n1 := HX8.1.c1; obtain ⟨zc, zf⟩ := HZ8.out _ _ HX8.1; obtain ⟨z0, z1⟩ := HY9.out w7 (.slice A7 k c7) hS7) | fail)
          have hMID := drop_mid (x := rep) (k := k) HN.out HBr.out (Nat.le_of_lt HM.out) (Nat.le_of_lt HBB.out.1) HBIN.out (fun j e => Nat.le_of_lt (HBV.out j e).1) HX8.2.1 HX8.2.2
          obtain ⟨G', hDR, hGl⟩ := dropped (i := i) HN.out HPK.out.bsrt HBr.out (by have := HBB.out; have := HM.out; omega) (fun j e => by have := HBV.out j e; have := HM.out; omega) HX8.1 HX8.2.1 HX8.2.2 hi' HXI.out hMID.1 hMID.2
          have HDR := Lib.hid hDR
          have HGL := Lib.hid hGl
          have HOF := Lib.hid (RNOfRep_raw n _ _ (delAt k E) G' (by have := (delAt_sub k E).length_le; omega) (fun q hq => HIDS.out q ((delAt_sub k E).mem hq)) rep _ hDR.node)
          clear hMID hDR hGl HX8 z0 z1 zc zf n1 d0 e0 hrow7 ho8
          generalize (w7.setCell ⟨n, 0, none⟩ (.slice A7 k c7)).setCell ⟨bg, i * 3 + 2, none⟩ (.pointer (some ⟨b, 0, none⟩)) = w9 at *
          refine HOF.out.mono ?_
          rintro e w10 ⟨vl, rfl, hol, hb10⟩
          obtain ⟨lA, lc, hlf⟩ := own_formI hol
          subst hlf
          have HB10 := Lib.hid hb10
          have HAN0 := Lib.hid (ofE_any (x := rep) (E := delAt k E))
          clear hol hb10 HOF
          generalize (ofE rep (delAt k E)).length = m at *
          by_cases hz : m = 0
          · subst hz
            have HAN : Hid (((delAt k E).map fxE).any (fun q => decide (repR q.2 = rep)) = false) := Lib.hid (HAN0.out.1 rfl)
            have HN10 := Lib.hid (HDR.out.node.below HB10.out)
            have nc10 := HN10.out.c1
            have hnl10 := HN10.out.nlt
            have HRG : Hid (RdC w10 w10.heap.size 3 (.slice (some ⟨bg, 0, none⟩) G.length bc) G.length (rbRow G')) := Lib.hid (by have := RdC.ownP HN10.out.bins; rwa [HGL.out] at this)
            have HT5 : Hid (RdC w10 w10.heap.size 3 (.slice (some ⟨bg, 0, none⟩) i bc) i ((rbRow G').take (i * 3))) := Lib.hid (HRG.out.takeM i (by omega))
            have HO5 : Hid (∀ u ∈ (rbRow G').take (i * 3), u.oneCell' = true) := Lib.hid (fun u hu => rbRow_one G' u (List.mem_of_mem_take hu))
            have g2 : (i : Int) ≤ (G.length : Int) := by omega
            have g3 : (i : Int) ≤ (bc : Int) := by omega
            have g4 : (0 : Int) ≤ (i : Int) + 1 := by omega
            have g5 : (i : Int) + 1 ≤ (G.length : Int) := by omega
            have g6 : (i : Int) + 1 ≤ (bc : Int) := by omega
            have g7 : IntKind.i64.wrap ((i : Int) + 1) = (i : Int) + 1 := IntWalk.i64_in _ (by omega)
            by_cases hd1 : bc = i + 1
            · subst hd1
              have hGz : G.length - (i + 1) = 0 := by omega
              have HO6 : Hid (∀ u ∈ ([] : List Value), u.oneCell' = true) := Lib.hid (fun u hu => absurd hu List.not_mem_nil)
              have HP : Hid (∀ (w7 : World) (v8 : Value), w7.ownsRow w10.heap.size 172 3 v8 (i) (([] ++ (rbRow G').take (i * 3)) ++ []) → Below w10.heap.size w10 w7 → RDropTo n (.slice (some ⟨g, o, none⟩) E.length (k + 1)) (.slice (some ⟨bg, 0, none⟩) G.length (i + 1)) nm E G w (.returned (.int .i64 0)) (w7.setCell ⟨n, 1, none⟩ v8)) := Lib.hid (fun w7 v8 ho hb => ⟨by rw [HQ.out], by rw [HQ.out, HDF.out]; exact HDR.out.delTo HPK.out.bsrt HGL.out hi' HXI.out HB10.out hb (by rw [List.drop_of_length_le (show (rbRow G').length ≤ (i + 1) * 3 by rw [rbRow_length, HGL.out]; omega), hGz, Nat.zero_add, Nat.add_zero]; exact ho) (Nat.le_refl _) HAN.out⟩)
              go_wp2_with (first | (at_builtin; refine wpList_append_rdM rfl (.tmp 86) (.tmp 92) 94 rfl w10.heap.size 172 j0 (.agg #[.int .u32 0, .int .i64 0, .pointer none]) 3 24 Tryz.underlying94 hj hy0 hy1 hy2 rfl (by decide) _ 0 [] rfl (World.ownsRow_nil _ _ _ _) w10.heap.size _ i ((rbRow G').take (i * 3)) rfl HT5.out HO5.out (by unfold maxLen; omega) (by omega) (Nat.le_refl _) ?_; intro v5 w5 ho5 hg5; have hS5 : Below w10.heap.size w10 w5 := below_grownP (Below.refl _ _) (Nat.le_refl _) (World.ownsRow_nil w10 w10.heap.size 172 3) hg5; have nc6 := (hS5.cell (p := ⟨n, 1, none⟩) hnl10).trans nc10) | (at_builtin; refine wpList_append_rdM rfl (.tmp 95) (.tmp 102) 94 rfl w10.heap.size 172 j0 (.agg #[.int .u32 0, .int .i64 0, .pointer none]) 3 24 Tryz.underlying94 hj hy0 hy1 hy2 rfl (by decide) _ _ _ rfl ho5 w10.heap.size _ 0 [] rfl (RdC.nilP _ _ _ _ _) HO6.out (by unfold maxLen; omega) (by omega) hS5.size ?_; intro v7 w7 ho7 hg7; have hS7 : Below w10.heap.size w10 w7 := below_grownP hS5 hS5.size ho5 hg7; have ho8 : w7.ownsRow w10.heap.size 172 3 v7 (i) (([] ++ (rbRow G').take (i * 3)) ++ []) := (by simpa only [Nat.zero_add, Nat.add_zero] using ho7); obtain ⟨A8, c8, hv8⟩ := own_formI ho8; subst hv8; have hrow7 := (hS7.block n hnl10).trans HN10.out.row; have d1 := cell_of_row w7 n 1 _ _ _ hrow7; have e1 := frozen_of_row w7 n 1 _ _ hrow7) | fail)
              refine bodyPost_ret (v := .int .i64 0) (by simp [results, Tryz.results96, go_sem]) rfl ?_
              exact HP.out _ _ ho8 hS7
            · have hd2 : ¬ i + 1 = bc := fun e => hd1 e.symm
              have HT7 : Hid (RdC w10 w10.heap.size 3 (.slice (some ⟨bg, (i + 1) * 3, none⟩) (G.length - (i + 1)) (bc - (i + 1))) (G.length - (i + 1)) ((rbRow G').drop ((i + 1) * 3))) := Lib.hid (by have h := HRG.out.cutM (i + 1) (by omega); rw [if_neg hd1, Option.map_some, add_eqM, Nat.zero_add] at h; exact h)
              have HO6 : Hid (∀ u ∈ (((rbRow G').drop ((i + 1) * 3)) : List Value), u.oneCell' = true) := Lib.hid (fun u hu => rbRow_one G' u (List.mem_of_mem_drop hu))
              have HP : Hid (∀ (w7 : World) (v8 : Value), w7.ownsRow w10.heap.size 172 3 v8 (i + (G.length - (i + 1))) (([] ++ (rbRow G').take (i * 3)) ++ ((rbRow G').drop ((i + 1) * 3))) → Below w10.heap.size w10 w7 → RDropTo n (.slice (some ⟨g, o, none⟩) E.length (k + 1)) (.slice (some ⟨bg, 0, none⟩) G.length bc) nm E G w (.returned (.int .i64 0)) (w7.setCell ⟨n, 1, none⟩ v8)) := Lib.hid (fun w7 v8 ho hb => ⟨by rw [HQ.out], by rw [HQ.out, HDF.out]; exact HDR.out.delTo HPK.out.bsrt HGL.out hi' HXI.out HB10.out hb (by rw [Nat.zero_add]; exact ho) (Nat.le_refl _) HAN.out⟩)
              go_wp2_with (first | (at_builtin; refine wpList_append_rdM rfl (.tmp 86) (.tmp 92) 94 rfl w10.heap.size 172 j0 (.agg #[.int .u32 0, .int .i64 0, .pointer none]) 3 24 Tryz.underlying94 hj hy0 hy1 hy2 rfl (by decide) _ 0 [] rfl (World.ownsRow_nil _ _ _ _) w10.heap.size _ i ((rbRow G').take (i * 3)) rfl HT5.out HO5.out (by unfold maxLen; omega) (by omega) (Nat.le_refl _) ?_; intro v5 w5 ho5 hg5; have hS5 : Below w10.heap.size w10 w5 := below_grownP (Below.refl _ _) (Nat.le_refl _) (World.ownsRow_nil w10 w10.heap.size 172 3) hg5; have nc6 := (hS5.cell (p := ⟨n, 1, none⟩) hnl10).trans nc10) | (at_builtin; refine wpList_append_rdM rfl (.tmp 95) (.tmp 102) 94 rfl w10.heap.size 172 j0 (.agg #[.int .u32 0, .int .i64 0, .pointer none]) 3 24 Tryz.underlying94 hj hy0 hy1 hy2 rfl (by decide) _ _ _ rfl ho5 w10.heap.size _ (G.length - (i + 1)) ((rbRow G').drop ((i + 1) * 3)) rfl (HT7.out.below hS5) HO6.out (by unfold maxLen; omega) (by omega) hS5.size ?_; intro v7 w7 ho7 hg7; have hS7 : Below w10.heap.size w10 w7 := below_grownP hS5 hS5.size ho5 hg7; have ho8 : w7.ownsRow w10.heap.size 172 3 v7 (i + (G.length - (i + 1))) (([] ++ (rbRow G').take (i * 3)) ++ ((rbRow G').drop ((i + 1) * 3))) := (by simpa only [Nat.zero_add, Nat.add_zero] using ho7); obtain ⟨A8, c8, hv8⟩ := own_formI ho8; subst hv8; have hrow7 := (hS7.block n hnl10).trans HN10.out.row; have d1 := cell_of_row w7 n 1 _ _ _ hrow7; have e1 := frozen_of_row w7 n 1 _ _ hrow7) | fail)
              refine bodyPost_ret (v := .int .i64 0) (by simp [results, Tryz.results96, go_sem]) rfl ?_
              exact HP.out _ _ ho8 hS7
          · have hmi : ¬ ((m : Nat) : Int) = 0 := by omega
            have HAN : Hid (((delAt k E).map fxE).any (fun q => decide (repR q.2 = rep)) = true) := Lib.hid (by
              cases h : ((delAt k E).map fxE).any (fun q => decide (repR q.2 = rep)) with
              | true => rfl
              | false => exact absurd (HAN0.out.2 h) hz)
            go_wp2
            refine bodyPost_ret (v := .int .i64 0) (by simp [results, Tryz.results96, go_sem]) rfl ?_
            exact ⟨by rw [HQ.out], by rw [HQ.out, HDF.out]; exact HDR.out.keepTo HB10.out HAN.out⟩
        · have hc2 : ¬ k + 1 = c := fun e => hc1 e.symm
          have HT3 : Hid (RdC wr wr.heap.size 4 (.slice (some ⟨g, o + (k + 1) * 4, none⟩) (E.length - (k + 1)) (c - (k + 1))) (E.length - (k + 1)) ((rcK.row E).drop ((k + 1) * 4))) := Lib.hid (by have h := HRC.out.cutM (k + 1) (by omega); rw [if_neg hc1, Option.map_some, add_eqM] at h; exact h)
          have HO4 : Hid (∀ u ∈ (((rcK.row E).drop ((k + 1) * 4)) : List Value), u.oneCell' = true) := HO3
          have HD8 : Hid (∀ (w7 : World) (v7 : Value), w7.ownsRow wr.heap.size 65 4 v7 (k + (E.length - (k + 1))) (([] ++ (rcK.row E).take (k * 4)) ++ ((rcK.row E).drop ((k + 1) * 4))) → Below wr.heap.size wr w7 → _) := Lib.hid (fun w7 v7 ho hb => HNr.out.delF (v7 := v7) hb hk (by rw [Nat.zero_add]; exact ho) (Nat.le_refl _))
          go_wp2_with (first | (at_builtin; refine wpList_append_rdM rfl (.tmp 53) (.tmp 59) 61 rfl wr.heap.size 65 i0 (.agg #[.string ByteArray.empty, .int .i64 0, .int .u32 0, .slice none 0 0]) 4 56 Tryz.underlying61 hi hz0 hz1 hz2 rfl (by decide) _ 0 [] rfl (World.ownsRow_nil _ _ _ _) wr.heap.size _ k ((rcK.row E).take (k * 4)) rfl HT1.out HO1.out (by unfold maxLen; omega) (by omega) (Nat.le_refl _) ?_; intro v5 w5 ho5 hg5; have hS5 : Below wr.heap.size wr w5 := below_grownP (Below.refl _ _) (Nat.le_refl _) (World.ownsRow_nil wr wr.heap.size 65 4) hg5; have nc5 := (hS5.cell (p := ⟨n, 0, none⟩) hnl).trans nc0) | (at_builtin; refine wpList_append_rdM rfl (.tmp 62) (.tmp 69) 61 rfl wr.heap.size 65 i0 (.agg #[.string ByteArray.empty, .int .i64 0, .int .u32 0, .slice none 0 0]) 4 56 Tryz.underlying61 hi hz0 hz1 hz2 rfl (by decide) _ _ _ rfl ho5 wr.heap.size _ (E.length - (k + 1)) ((rcK.row E).drop ((k + 1) * 4)) rfl (HT3.out.below hS5) HO4.out (by unfold maxLen; omega) (by omega) hS5.size ?_; intro v7 w7 ho7 hg7; have hS7 : Below wr.heap.size wr w7 := below_grownP hS5 hS5.size ho5 hg7; have ho8 : w7.ownsRow wr.heap.size 65 4 v7 (k + (E.length - (k + 1))) (([] ++ (rcK.row E).take (k * 4)) ++ ((rcK.row E).drop ((k + 1) * 4))) := (by simpa only [Nat.zero_add, Nat.add_zero] using ho7); obtain ⟨A7, c7, hv7⟩ := own_formI ho8; subst hv7; have hrow7 := (hS7.block n hnl).trans HNr.out.row; have d0 := cell_of_row w7 n 0 _ _ _ hrow7; have e0 := frozen_of_row w7 n 0 _ _ hrow7; have HX8 := HD8.out _ _ ho8 hS7; have n1 := HX8.1.c1; obtain ⟨zc, zf⟩ := HZ8.out _ _ HX8.1; obtain ⟨z0, z1⟩ := HY9.out w7 (.slice A7 (k + (E.length - (k + 1))) c7) hS7) | fail)
          have hMID := drop_mid (x := rep) (k := k) HN.out HBr.out (Nat.le_of_lt HM.out) (Nat.le_of_lt HBB.out.1) HBIN.out (fun j e => Nat.le_of_lt (HBV.out j e).1) HX8.2.1 HX8.2.2
          obtain ⟨G', hDR, hGl⟩ := dropped (i := i) HN.out HPK.out.bsrt HBr.out (by have := HBB.out; have := HM.out; omega) (fun j e => by have := HBV.out j e; have := HM.out; omega) HX8.1 HX8.2.1 HX8.2.2 hi' HXI.out hMID.1 hMID.2
          have HDR := Lib.hid hDR
          have HGL := Lib.hid hGl
          have HOF := Lib.hid (RNOfRep_raw n _ _ (delAt k E) G' (by have := (delAt_sub k E).length_le; omega) (fun q hq => HIDS.out q ((delAt_sub k E).mem hq)) rep _ hDR.node)
          clear hMID hDR hGl HX8 z0 z1 zc zf n1 d0 e0 hrow7 ho8
          generalize (w7.setCell ⟨n, 0, none⟩ (.slice A7 (k + (E.length - (k + 1))) c7)).setCell ⟨bg, i * 3 + 2, none⟩ (.pointer (some ⟨b, 0, none⟩)) = w9 at *
          refine HOF.out.mono ?_
          rintro e w10 ⟨vl, rfl, hol, hb10⟩
          obtain ⟨lA, lc, hlf⟩ := own_formI hol
          subst hlf
          have HB10 := Lib.hid hb10
          have HAN0 := Lib.hid (ofE_any (x := rep) (E := delAt k E))
          clear hol hb10 HOF
          generalize (ofE rep (delAt k E)).length = m at *
          by_cases hz : m = 0
          · subst hz
            have HAN : Hid (((delAt k E).map fxE).any (fun q => decide (repR q.2 = rep)) = false) := Lib.hid (HAN0.out.1 rfl)
            have HN10 := Lib.hid (HDR.out.node.below HB10.out)
            have nc10 := HN10.out.c1
            have hnl10 := HN10.out.nlt
            have HRG : Hid (RdC w10 w10.heap.size 3 (.slice (some ⟨bg, 0, none⟩) G.length bc) G.length (rbRow G')) := Lib.hid (by have := RdC.ownP HN10.out.bins; rwa [HGL.out] at this)
            have HT5 : Hid (RdC w10 w10.heap.size 3 (.slice (some ⟨bg, 0, none⟩) i bc) i ((rbRow G').take (i * 3))) := Lib.hid (HRG.out.takeM i (by omega))
            have HO5 : Hid (∀ u ∈ (rbRow G').take (i * 3), u.oneCell' = true) := Lib.hid (fun u hu => rbRow_one G' u (List.mem_of_mem_take hu))
            have g2 : (i : Int) ≤ (G.length : Int) := by omega
            have g3 : (i : Int) ≤ (bc : Int) := by omega
            have g4 : (0 : Int) ≤ (i : Int) + 1 := by omega
            have g5 : (i : Int) + 1 ≤ (G.length : Int) := by omega
            have g6 : (i : Int) + 1 ≤ (bc : Int) := by omega
            have g7 : IntKind.i64.wrap ((i : Int) + 1) = (i : Int) + 1 := IntWalk.i64_in _ (by omega)
            by_cases hd1 : bc = i + 1
            · subst hd1
              have hGz : G.length - (i + 1) = 0 := by omega
              have HO6 : Hid (∀ u ∈ ([] : List Value), u.oneCell' = true) := Lib.hid (fun u hu => absurd hu List.not_mem_nil)
              have HP : Hid (∀ (w7 : World) (v8 : Value), w7.ownsRow w10.heap.size 172 3 v8 (i) (([] ++ (rbRow G').take (i * 3)) ++ []) → Below w10.heap.size w10 w7 → RDropTo n (.slice (some ⟨g, o, none⟩) E.length c) (.slice (some ⟨bg, 0, none⟩) G.length (i + 1)) nm E G w (.returned (.int .i64 0)) (w7.setCell ⟨n, 1, none⟩ v8)) := Lib.hid (fun w7 v8 ho hb => ⟨by rw [HQ.out], by rw [HQ.out, HDF.out]; exact HDR.out.delTo HPK.out.bsrt HGL.out hi' HXI.out HB10.out hb (by rw [List.drop_of_length_le (show (rbRow G').length ≤ (i + 1) * 3 by rw [rbRow_length, HGL.out]; omega), hGz, Nat.zero_add, Nat.add_zero]; exact ho) (Nat.le_refl _) HAN.out⟩)
              go_wp2_with (first | (at_builtin; refine wpList_append_rdM rfl (.tmp 86) (.tmp 92) 94 rfl w10.heap.size 172 j0 (.agg #[.int .u32 0, .int .i64 0, .pointer none]) 3 24 Tryz.underlying94 hj hy0 hy1 hy2 rfl (by decide) _ 0 [] rfl (World.ownsRow_nil _ _ _ _) w10.heap.size _ i ((rbRow G').take (i * 3)) rfl HT5.out HO5.out (by unfold maxLen; omega) (by omega) (Nat.le_refl _) ?_; intro v5 w5 ho5 hg5; have hS5 : Below w10.heap.size w10 w5 := below_grownP (Below.refl _ _) (Nat.le_refl _) (World.ownsRow_nil w10 w10.heap.size 172 3) hg5; have nc6 := (hS5.cell (p := ⟨n, 1, none⟩) hnl10).trans nc10) | (at_builtin; refine wpList_append_rdM rfl (.tmp 95) (.tmp 102) 94 rfl w10.heap.size 172 j0 (.agg #[.int .u32 0, .int .i64 0, .pointer none]) 3 24 Tryz.underlying94 hj hy0 hy1 hy2 rfl (by decide) _ _ _ rfl ho5 w10.heap.size _ 0 [] rfl (RdC.nilP _ _ _ _ _) HO6.out (by unfold maxLen; omega) (by omega) hS5.size ?_; intro v7 w7 ho7 hg7; have hS7 : Below w10.heap.size w10 w7 := below_grownP hS5 hS5.size ho5 hg7; have ho8 : w7.ownsRow w10.heap.size 172 3 v7 (i) (([] ++ (rbRow G').take (i * 3)) ++ []) := (by simpa only [Nat.zero_add, Nat.add_zero] using ho7); obtain ⟨A8, c8, hv8⟩ := own_formI ho8; subst hv8; have hrow7 := (hS7.block n hnl10).trans HN10.out.row; have d1 := cell_of_row w7 n 1 _ _ _ hrow7; have e1 := frozen_of_row w7 n 1 _ _ hrow7) | fail)
              refine bodyPost_ret (v := .int .i64 0) (by simp [results, Tryz.results96, go_sem]) rfl ?_
              exact HP.out _ _ ho8 hS7
            · have hd2 : ¬ i + 1 = bc := fun e => hd1 e.symm
              have HT7 : Hid (RdC w10 w10.heap.size 3 (.slice (some ⟨bg, (i + 1) * 3, none⟩) (G.length - (i + 1)) (bc - (i + 1))) (G.length - (i + 1)) ((rbRow G').drop ((i + 1) * 3))) := Lib.hid (by have h := HRG.out.cutM (i + 1) (by omega); rw [if_neg hd1, Option.map_some, add_eqM, Nat.zero_add] at h; exact h)
              have HO6 : Hid (∀ u ∈ (((rbRow G').drop ((i + 1) * 3)) : List Value), u.oneCell' = true) := Lib.hid (fun u hu => rbRow_one G' u (List.mem_of_mem_drop hu))
              have HP : Hid (∀ (w7 : World) (v8 : Value), w7.ownsRow w10.heap.size 172 3 v8 (i + (G.length - (i + 1))) (([] ++ (rbRow G').take (i * 3)) ++ ((rbRow G').drop ((i + 1) * 3))) → Below w10.heap.size w10 w7 → RDropTo n (.slice (some ⟨g, o, none⟩) E.length c) (.slice (some ⟨bg, 0, none⟩) G.length bc) nm E G w (.returned (.int .i64 0)) (w7.setCell ⟨n, 1, none⟩ v8)) := Lib.hid (fun w7 v8 ho hb => ⟨by rw [HQ.out], by rw [HQ.out, HDF.out]; exact HDR.out.delTo HPK.out.bsrt HGL.out hi' HXI.out HB10.out hb (by rw [Nat.zero_add]; exact ho) (Nat.le_refl _) HAN.out⟩)
              go_wp2_with (first | (at_builtin; refine wpList_append_rdM rfl (.tmp 86) (.tmp 92) 94 rfl w10.heap.size 172 j0 (.agg #[.int .u32 0, .int .i64 0, .pointer none]) 3 24 Tryz.underlying94 hj hy0 hy1 hy2 rfl (by decide) _ 0 [] rfl (World.ownsRow_nil _ _ _ _) w10.heap.size _ i ((rbRow G').take (i * 3)) rfl HT5.out HO5.out (by unfold maxLen; omega) (by omega) (Nat.le_refl _) ?_; intro v5 w5 ho5 hg5; have hS5 : Below w10.heap.size w10 w5 := below_grownP (Below.refl _ _) (Nat.le_refl _) (World.ownsRow_nil w10 w10.heap.size 172 3) hg5; have nc6 := (hS5.cell (p := ⟨n, 1, none⟩) hnl10).trans nc10) | (at_builtin; refine wpList_append_rdM rfl (.tmp 95) (.tmp 102) 94 rfl w10.heap.size 172 j0 (.agg #[.int .u32 0, .int .i64 0, .pointer none]) 3 24 Tryz.underlying94 hj hy0 hy1 hy2 rfl (by decide) _ _ _ rfl ho5 w10.heap.size _ (G.length - (i + 1)) ((rbRow G').drop ((i + 1) * 3)) rfl (HT7.out.below hS5) HO6.out (by unfold maxLen; omega) (by omega) hS5.size ?_; intro v7 w7 ho7 hg7; have hS7 : Below w10.heap.size w10 w7 := below_grownP hS5 hS5.size ho5 hg7; have ho8 : w7.ownsRow w10.heap.size 172 3 v7 (i + (G.length - (i + 1))) (([] ++ (rbRow G').take (i * 3)) ++ ((rbRow G').drop ((i + 1) * 3))) := (by simpa only [Nat.zero_add, Nat.add_zero] using ho7); obtain ⟨A8, c8, hv8⟩ := own_formI ho8; subst hv8; have hrow7 := (hS7.block n hnl10).trans HN10.out.row; have d1 := cell_of_row w7 n 1 _ _ _ hrow7; have e1 := frozen_of_row w7 n 1 _ _ hrow7) | fail)
              refine bodyPost_ret (v := .int .i64 0) (by simp [results, Tryz.results96, go_sem]) rfl ?_
              exact HP.out _ _ ho8 hS7
          · have hmi : ¬ ((m : Nat) : Int) = 0 := by omega
            have HAN : Hid (((delAt k E).map fxE).any (fun q => decide (repR q.2 = rep)) = true) := Lib.hid (by
              cases h : ((delAt k E).map fxE).any (fun q => decide (repR q.2 = rep)) with
              | true => rfl
              | false => exact absurd (HAN0.out.2 h) hz)
            go_wp2
            refine bodyPost_ret (v := .int .i64 0) (by simp [results, Tryz.results96, go_sem]) rfl ?_
            exact ⟨by rw [HQ.out], by rw [HQ.out, HDF.out]; exact HDR.out.keepTo HB10.out HAN.out⟩
end Go.Proofs.YtpanoplcamdnkaaGreatDoor
/- The reference's Node: Put of any text; how many bytes a sweep frees. No conditions but bounds. -/
namespace Go.Proofs.YtpanoplcamdnkaaGreatDoor
open Go.RowKit Go.Lib Go.Maps

theorem RNPut_any (n : Nat) (vf vb : Value) (E : REL) (G : List RBE) (hP : NodeOk (plainR E G)) (nm s : Bytes) (hn : nm.length ≤ maxLen) (w : World) (h : ORN n vf vb E G w) :
    Calls Tryz.prog 95 #[.pointer (some ⟨n, 0, none⟩), VT nm, VT s] w (RPutTo n vf vb nm s E G w) := by
  rcases ofRes_cases nm s with ⟨hc, hi⟩ | ⟨hc, hi, h4⟩ | ⟨_, hi, h4⟩
  · exact RNPut_early n vf vb E G nm s hn w h 4 (by decide) hc (pN_name hi)
  · exact RNPut_early n vf vb E G nm s hn w h 2 (by decide) hc (pN_long hi h4)
  · exact RNPut_main n vf vb E G hP nm s hn hi h4 w h
theorem goneB_eq (L : HldL) : goneB L = sizeB L - sizeB (sweepB L) := by
  unfold goneB sweepB
  induction L with
  | nil => rfl
  | cons y r ih =>
    rw [List.filter_cons, List.filter_cons]
    have e : ∀ (a : Hld) (l : HldL), sizeB (a :: l) = a.id.2 + sizeB l := fun a l => by unfold sizeB; simp
    cases hu : usedB y with
    | true => simp only [Bool.not_true, Bool.false_eq_true, if_false, if_true, e]; omega
    | false => simp only [Bool.not_false, Bool.false_eq_true, if_false, if_true, e]; omega
theorem goneG_eq (E : REL) (G : List RBE) : goneG G = sizeN (plainR E G) - sizeN (sweepN (plainR E G)) := by
  have e1 : sizeN (plainR E G) = (G.map fun q => sizeB q.L).sum := by unfold sizeN; rw [plainR_eq, List.map_map]; rfl
  have e2 : sizeN (sweepN (plainR E G)) = (G.map fun q => sizeB (sweepB q.L)).sum := by
    unfold sizeN sweepN alMap
    rw [plainR_eq, List.map_map, List.map_map]; rfl
  rw [e1, e2]
  unfold goneG
  induction G with
  | nil => rfl
  | cons q r ih =>
    have ih' := ih (by unfold sizeN; rw [plainR_eq, List.map_map]; rfl) (by unfold sizeN sweepN alMap; rw [plainR_eq, List.map_map, List.map_map]; rfl)
    rw [List.map_cons, List.map_cons, List.map_cons, List.sum_cons, List.sum_cons, List.sum_cons, ih', goneB_eq]; omega
end Go.Proofs.YtpanoplcamdnkaaGreatDoor
/- The reference's node by what it is and the blocks that it stands on; a node beside its model. No conditions but bounds. -/
namespace Go.Proofs.YtpanoplcamdnkaaGreatDoor
open Go.RowKit Go.Lib Go.Maps

/-- the reference's node that stands on the blocks of f -/
def RNode (n : Nat) (P : PNode) (f : Foot) (w : World) : Prop := Thing (RNodeIs n P f) f w
def RNodeTo (n : Nat) (f : Foot) (P' : PNode) (w w' : World) : Prop := ∃ f', RNode n P' f' w' ∧ FrS f.S w w' ∧ f.new f' w.heap.size
section
variable {n m : Nat} {vf vb : Value} {E : REL} {G : List RBE} {P P' Q : PNode} {f g : Foot} {w w' w2 : World}
theorem ORN.rnode (h : ORN n vf vb E G w) : RNode n (plainR E G) (rFoot n vf vb E G) w := ⟨h.foot, fun _ hz hk => ⟨vf, vb, E, G, h.keepH hz (fun k _ hm => hk k hm), rfl, rfl⟩⟩
theorem RNode.at (h : RNode n P f w) : ∃ vf vb E G, ORN n vf vb E G w ∧ plainR E G = P ∧ rFoot n vf vb E G = f := Thing.now h
theorem RNode.below (h : RNode n P f w) (hb : Below w.heap.size w w') : RNode n P f w' := Thing.below h hb
theorem RNTo.to (h : RNTo n f P' w w') : RNodeTo n f P' w w' := by
  obtain ⟨vf, vb, E, G, h1, rfl, h3, h4⟩ := h
  exact ⟨_, h1.rnode, h4, h3⟩
theorem RNodeTo.stay (h : RNode n P f w) (hb : Below w.heap.size w w') : RNodeTo n f P w w' := ⟨f, h.below hb, FrS.of_below hb, Foot.new_refl _ _⟩
theorem RNodeTo.below (h : RNodeTo n f P' w w') (hb : Below w'.heap.size w' w2) : RNodeTo n f P' w w2 := by
  obtain ⟨f', h1, h2, h3⟩ := h
  exact ⟨f', h1.below hb, h2.thenB hb, h3⟩
theorem NodeOk.lenE (hP : NodeOk (plainR E G)) : E.length ≤ 30 := by have := hP.flen; rw [plainR_eq, List.length_map] at this; exact this
theorem NodeOk.lenG (hP : NodeOk (plainR E G)) : G.length ≤ 30 := by have := hP.blen; rw [plainR_eq, List.length_map, List.length_map] at this; have := hP.lenE; omega
theorem NodeOk.getG (hP : NodeOk (plainR E G)) {q : RBE} (hq : q ∈ G) : alGet (plainR E G).bins q.x = some q.L :=
  alGet_of_mem idEmb hP.bsrt (q := (q.x, q.L)) (List.mem_map_of_mem (f := fun q : RBE => (q.x, q.L)) hq)
theorem NodeOk.binG (hP : NodeOk (plainR E G)) {q : RBE} (hq : q ∈ G) : BinOk 7500 q.L ∧ q.L.length ≤ 250 :=
  ⟨hP.bin7 (hP.getG hq), (hP.bin _ _ (hP.getG hq)).2.2.1⟩
theorem RNode.putC (hP : NodeOk P) (nm s : Bytes) (hn : StrOk nm) (w : World) (h : RNode n P f w) :
    Calls Tryz.prog 95 #[.pointer (some ⟨n, 0, none⟩), .string (bs nm), .string (bs s)] w fun e w' => e = .returned (.tuple #[.int .i64 (putN nm s P).2.1, .int .i64 (putN nm s P).2.2]) ∧ RNodeTo n f (putN nm s P).1 w w' := by
  obtain ⟨vf, vb, E, G, ho, rfl, rfl⟩ := h.at
  exact (RNPut_any n vf vb E G hP nm s hn w ho).mono fun e w' ⟨h1, h2⟩ => ⟨h1, h2.to⟩
theorem RNode.dropC (hP : NodeOk P) (nm : Bytes) (w : World) (h : RNode n P f w) :
    Calls Tryz.prog 96 #[.pointer (some ⟨n, 0, none⟩), .string (bs nm)] w fun e w' => e = .returned (.int .i64 (dropN nm P).2) ∧ RNodeTo n f (dropN nm P).1 w w' := by
  obtain ⟨vf, vb, E, G, ho, rfl, rfl⟩ := h.at
  exact (RNDrop_raw n vf vb E G hP nm w ho).mono fun e w' ⟨h1, h2⟩ => ⟨h1, h2.to⟩
theorem RNode.sweepC (hP : NodeOk P) (w : World) (h : RNode n P f w) :
    Calls Tryz.prog 97 #[.pointer (some ⟨n, 0, none⟩)] w fun e w' => e = .returned (.int .i64 (sizeN P - sizeN (sweepN P))) ∧ RNodeTo n f (sweepN P) w w' := by
  obtain ⟨vf, vb, E, G, ho, rfl, rfl⟩ := h.at
  exact (RNSweep_raw n vf vb E G (by have := hP.lenG; omega) (fun q hq => hP.binG hq) w ho).mono fun e w' ⟨h1, h2⟩ => ⟨by rw [h1, goneG_eq E G], h2.to⟩
theorem RNode.getC (hP : NodeOk P) (nm : Bytes) (w : World) (h : RNode n P f w) :
    Calls Tryz.prog 98 #[.pointer (some ⟨n, 0, none⟩), .string (bs nm)] w fun e w' => e = .returned (.tuple #[.string (bs (getN nm P).1), .int .i64 (getN nm P).2]) ∧ Below w.heap.size w w' := by
  obtain ⟨vf, vb, E, G, ho, rfl, rfl⟩ := h.at
  exact RNGet_raw n vf vb E G hP nm w ho
theorem sumG_eq (E : REL) (G : List RBE) : sumG G = sizeN (plainR E G) := by
  unfold sizeN sumG
  rw [plainR_eq, List.map_map]; rfl
theorem RNode.sizeC (hP : NodeOk P) (w : World) (h : RNode n P f w) :
    Calls Tryz.prog 99 #[.pointer (some ⟨n, 0, none⟩)] w fun e w' => e = .returned (.int .i64 (sizeN P)) ∧ Below w.heap.size w w' := by
  obtain ⟨vf, vb, E, G, ho, rfl, rfl⟩ := h.at
  refine (RNSize_raw n vf vb E G (by have := hP.lenG; omega) (fun q hq => ?_) w ho).mono fun e w' ⟨h1, h2⟩ => ⟨by rw [h1, sumG_eq E G], h2⟩
  obtain ⟨h1, h2⟩ := hP.binG hq
  have h3 := h1.size
  exact ⟨h2, fun y hy => by
    have h4 := (h1.all y hy).len
    rw [(h1.all y hy).id]
    show (0 : Int) ≤ ((y.text.length : Nat) : Int) ∧ ((y.text.length : Nat) : Int) ≤ 64
    omega, by omega⟩
end
/-! ### a node that the call has made, beside its model -/
structure ND (base n m : Nat) (P Q : PNode) (f g : Foot) (w0 w : World) : Prop where
  node : Node n P f w
  mod : RNode m Q g w
  ap : f.ap g
  ge : ∀ k, f.S k → base ≤ k
  ge2 : ∀ k, g.S k → base ≤ k
  bel : Below base w0 w
  sz : base ≤ w.heap.size
section
variable {base n m : Nat} {P P' Q Q' : PNode} {f g : Foot} {w0 w w' : World}
theorem ND.below (h : ND base n m P Q f g w0 w) (hb : Below w.heap.size w w') : ND base n m P Q f g w0 w' :=
  ⟨h.node.below hb, h.mod.below hb, h.ap, h.ge, h.ge2, h.bel.trans (hb.mono h.sz), Nat.le_trans h.sz hb.size⟩
theorem ND.toN (h : ND base n m P Q f g w0 w) (ht : NodeTo n f P' w w') : ∃ f', ND base n m P' Q f' g w0 w' := by
  obtain ⟨f', h1, h2, h3⟩ := ht
  exact ⟨f', h1, Thing.far h.mod h2 h.ap, h.ap.step h3 h.mod.lt, fun k hk => ((h3 k).1 hk).elim (h.ge k) (fun hB => Nat.le_trans h.sz hB), h.ge2, h2.below h.bel h.sz h.ge, Nat.le_trans h.sz h2.size⟩
theorem ND.toR (h : ND base n m P Q f g w0 w) (ht : RNodeTo m g Q' w w') : ∃ g', ND base n m P Q' f g' w0 w' := by
  obtain ⟨g', h1, h2, h3⟩ := ht
  exact ⟨g', Thing.far h.node h2 h.ap.symm, h1, (h.ap.symm.step h3 h.node.lt).symm, h.ge, fun k hk => ((h3 k).1 hk).elim (h.ge2 k) (fun hB => Nat.le_trans h.sz hB), h2.below h.bel h.sz h.ge2, Nat.le_trans h.sz h2.size⟩
/-- the reference's node with nothing in it -/
theorem ORN.nil (w : World) : ORN w.heap.size (.slice none 0 0) (.slice none 0 0) [] [] (w.alloc (.cells #[.slice none 0 0, .slice none 0 0] 96)) where
  row := heap_alloc_new w _
  files := ⟨none, 0, rfl, rfl, Nat.le_refl _, fun h => absurd h (Nat.lt_irrefl 0)⟩
  ids := fun x hx => absurd hx List.not_mem_nil
  bins := World.ownsRow_nil _ _ _ _
  bin := fun q hq => absurd hq List.not_mem_nil
  nd := by unfold blkN blkG; simp [Value.ownBlock]
  ap := fun k hk => by
    rcases hk with ⟨_, h⟩ | ⟨x, hx, _⟩
    · exact absurd rfl h
    · exact absurd hx List.not_mem_nil
theorem ND.new {f : Foot} (hn : Node n ⟨[], []⟩ f w) (hg : f.ge base) (hb : Below base w0 w) (hz : base ≤ w.heap.size) :
    ∃ g, ND base n w.heap.size ⟨[], []⟩ ⟨[], []⟩ f g w0 (w.alloc (.cells #[.slice none 0 0, .slice none 0 0] 96)) := by
  have hb1 : Below w.heap.size w (w.alloc (.cells #[.slice none 0 0, .slice none 0 0] 96)) := (Below.refl _ _).alloc (Nat.le_refl _) _
  have ho := ORN.nil w
  have hge : (rFoot w.heap.size (.slice none 0 0) (.slice none 0 0) [] []).ge w.heap.size := fun k hk => by
    rcases hk with hk | hk
    · rcases blk_iff.1 hk with rfl | e | ⟨q, hq, _⟩
      · exact Nat.le_refl _
      · cases e
      · exact absurd hq List.not_mem_nil
    · rcases hk with ⟨e, _⟩ | ⟨x, hx, _⟩
      · cases e
      · exact absurd hx List.not_mem_nil
  exact ⟨_, hn.below hb1, ho.rnode, (Foot.ap_of_ge hge hn.lt).symm, fun k hk => hg k (.inl hk), fun k hk => Nat.le_trans hz (hge k (.inl hk)), hb.trans (hb1.mono hz), Nat.le_trans hz hb1.size⟩
end
end Go.Proofs.YtpanoplcamdnkaaGreatDoor

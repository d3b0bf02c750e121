/- Walk of the laws' SameNode at a node and its model. Condition: the sentinel that is read lies as named (SomeS). -/
import Derived.Test.YtpanoplcamdnkaaGreatDoorRef3
import Derived.Test.YtpanoplcamdnkaaGreatDoorRep2
import Derived.Test.YtpanoplcamdnkaaGreatDoorRcS
import Derived.Test.YtpanoplcamdnkaaGreatDoorIds1
import Derived.Test.YtpanoplcamdnkaaGreatDoorHlds
import Derived.Test.YtpanoplcamdnkaaGreatDoorBin2
namespace Go.Proofs.YtpanoplcamdnkaaGreatDoor
open Go.RowKit Go.Lib Go.Maps Go.WideMaps

theorem namesN_R (E : REL) (G : List RBE) : namesN (plainR E G) = E.map (·.1.name) := by
  unfold namesN
  rw [plainR_eq, List.map_map]; rfl
theorem repsN_R (E : REL) (G : List RBE) : repsN (plainR E G) = G.map (·.x) := by
  unfold repsN
  rw [plainR_eq, List.map_map]; rfl
theorem NodeW.lenE {E : REL} {G : List RBE} (hP : NodeW (plainR E G)) : E.length ≤ 30 := by have := hP.flen; rw [plainR_eq, List.length_map] at this; exact this
theorem NodeW.lenG {E : REL} {G : List RBE} (hP : NodeW (plainR E G)) : G.length ≤ 30 := by have := hP.blen; rw [plainR_eq, List.length_map] at this; exact this
theorem NodeW.recE {E : REL} {G : List RBE} (hP : NodeW (plainR E G)) {k : Nat} (hk : k < E.length) : recN E[k].1.name (plainR E G) = (0, E[k].1) ∧ StrOk E[k].1.name ∧ E[k].1.ids.length ≤ 250 := by
  have h1 : alGet (plainR E G).files E[k].1.name = some E[k].1 := alGet_of_mem strEmb hP.fsrt (q := (E[k].1.name, E[k].1)) (List.mem_map_of_mem (f := fun x : Rcp × Value => (x.1.name, x.1)) (List.getElem_mem hk))
  have h2 := hP.fk (E[k].1.name, E[k].1) (List.mem_map_of_mem (f := fun x : Rcp × Value => (x.1.name, x.1)) (List.getElem_mem hk))
  refine ⟨by unfold recN; rw [h1], ?_, h2.2⟩
  have h3 : E[k].1.name.length ≤ 30 := h2.1
  unfold StrOk maxLen; omega
theorem NodeW.binG {E : REL} {G : List RBE} (hP : NodeW (plainR E G)) {k : Nat} (hk : k < G.length) : alGet (plainR E G).bins G[k].x = some G[k].L ∧ IdOk G[k].x ∧ BinOk 7500 G[k].L ∧ G[k].L.length ≤ 250 := by
  have h1 : alGet (plainR E G).bins G[k].x = some G[k].L := alGet_of_mem idEmb hP.bsrt (q := (G[k].x, G[k].L)) (List.mem_map_of_mem (f := fun q : RBE => (q.x, q.L)) (List.getElem_mem hk))
  have h2 := hP.bk (G[k].x, G[k].L) (List.mem_map_of_mem (f := fun q : RBE => (q.x, q.L)) (List.getElem_mem hk))
  exact ⟨h1, h2.1.1, h2.2⟩
set_option maxRecDepth 100000 in
set_option maxHeartbeats 4000000 in
theorem SameNode_any (a : Nat → Addr) {n m : Nat} {P : PNode} {f g : Foot} (hP : NodeW P) (w : World) (h : Node n P f w) (hm : RNode m P g w) (hs : SomeS [4] a w) :
    Calls Tryz.prog 50 #[.pointer (some ⟨n, 0, none⟩), .pointer (some ⟨m, 0, none⟩)] w fun e w' => e = .returned (.int .i64 1) ∧ Below w.heap.size w w' := by
  obtain ⟨vf, vb, E, G, ho, rfl, rfl⟩ := hm.at
  have HP := Lib.hid hP
  have HN := Lib.hid h
  have HM := Lib.hid ho
  have HS := Lib.hid hs
  have hE30 := hP.lenE
  have hG30 := hP.lenG
  have hml := ho.nlt
  have HNM := Lib.hid (Node.namesW hP w h)
  rw [namesN_R] at HNM
  have HFF := Lib.hid ho.vff
  have HBB := Lib.hid ho.vbf
  obtain ⟨FA, fc, hvf, hfc, _⟩ := ho.vff
  obtain ⟨BA, bc, hvb, hbc, _⟩ := ho.vbf
  subst hvf
  subst hvb
  clear hP h hm hs ho
  go_enter Tryz.func50, Tryz.ntmps50
  go_wp2_with fail
  refine HNM.out.mono ?_
  rintro e w1 ⟨v1, rfl, hon1, hb1⟩
  have HR1 := Lib.hid (Rd.own hon1)
  have HB1 := Lib.hid hb1
  have HM1 := Lib.hid (RNNames_raw m _ _ E G (by omega) w1 (HM.out.below hb1))
  clear hon1 hb1 HNM
  go_wp2_with fail
  refine HM1.out.mono ?_
  rintro e w2 ⟨v2, rfl, hon2, hb2⟩
  have HST := Lib.hid (SameTexts_any v1 v2 (E.map (·.1.name)) (E.map (·.1.name)) _ w2 ((HR1.out.below hb2).more hb2.size) (Rd.own hon2) (by rw [List.length_map]; omega) (by rw [List.length_map]; omega))
  rw [decide_eq_true rfl] at HST
  have HB2 := Lib.hid (HB1.out.trans (hb2.mono HB1.out.size))
  clear hon2 hb2 HM1 HR1
  go_wp2_with fail
  refine HST.out.mono ?_
  rintro e w3 ⟨rfl, nq, rfl⟩
  have HB3 := Lib.hid (below_drewN HB2.out nq)
  generalize w2.drewN nq = w3 at *
  have HRP := Lib.hid (Node.repsW HP.out w3 (HN.out.below HB3.out))
  rw [repsN_R] at HRP
  unfold IdsPost at HRP
  clear HST
  go_wp2_with fail
  refine HRP.out.mono ?_
  rintro e w4 ⟨v4, rfl, hon4, hb4⟩
  have HR4 := Lib.hid (RdI.own hon4 rfl)
  have HB4 := Lib.hid (HB3.out.trans (hb4.mono HB3.out.size))
  have HM4 := Lib.hid (RNReps_raw m _ _ E G (by omega) w4 (HM.out.below HB4.out))
  clear hon4 hb4 HRP
  go_wp2_with fail
  refine HM4.out.mono ?_
  rintro e w5 ⟨v5, rfl, hon5, hb5⟩
  have HSI := Lib.hid (SameIDs_same v4 v5 (G.map (·.x)) (by rw [List.length_map]; omega) w5 ((HR4.out.keep hb5 (Nat.le_refl _)).more hb5.size) (RdI.own hon5 (by rw [List.length_map])))
  have HB5 := Lib.hid (HB4.out.trans (hb5.mono HB4.out.size))
  clear hon5 hb5 HM4 HR4
  go_wp2_with fail
  refine HSI.out.mono ?_
  rintro e w6 ⟨rfl, hb6⟩
  have HB6 := Lib.hid (HB5.out.trans (hb6.mono HB5.out.size))
  clear hb6 HSI
  go_wp2
  go_loopg [5] E.length (fun gh v5 wr => ∃ k : Nat, v5 = .int .i64 k ∧ k ≤ E.length ∧ gh = E.length - k ∧ Hid (Below w.heap.size w wr))
  case atStart => exact ⟨0, rfl, Nat.zero_le _, rfl, HB6⟩
  case round =>
    obtain ⟨k, rfl, hk, hgm, HBr⟩ := hrel
    have HMr := Lib.hid (HM.out.below HBr.out)
    have C0 := HMr.out.c0
    by_cases hkl : k < E.length
    · obtain ⟨FA', fc', hvf, _, hx⟩ := HFF.out
      injection hvf with e1 _ e3
      subst e1; subst e3
      obtain ⟨g, o, rfl, hg, hcells⟩ := hx (by omega)
      obtain ⟨y0, y1, y2, y3⟩ := hcells k hkl
      have z0 := (HBr.out.cell (p := ⟨g, o + k * 4, none⟩) hg).trans y0
      obtain ⟨hrec, hso, hil⟩ := HP.out.recE hkl
      have HRC := Lib.hid (Node.recipeW a HP.out E[k].1.name hso wr (HN.out.below HBr.out) (HS.out.below HBr.out))
      rw [hrec] at HRC
      have HID := Lib.hid (HM.out.ids E[k] (List.getElem_mem hkl))
      have Y0 := Lib.hid y0
      have Y1 := Lib.hid y1
      have Y2 := Lib.hid y2
      have Y3 := Lib.hid y3
      have b1 : (0 : Int) ≤ (k : Int) := by omega
      have b2 : (k : Int) < (E.length : Int) := by omega
      generalize E[k].1 = r at *
      generalize E[k].2 = sl at *
      obtain ⟨A3, c3, hsl⟩ : ∃ A c, sl = .slice A r.ids.length c := by obtain ⟨A, c, h, _⟩ := HID.out; exact ⟨A, c, h⟩
      subst hsl
      clear hx hcells y0 y1 y2 y3 hrec hso
      go_wp2_with fail
      refine HRC.out.mono ?_
      rintro e w4 ⟨v4, r4, rfl, hev, ⟨sl4, rfl, hr4⟩, hb4⟩
      obtain ⟨rfl, _⟩ := hev.nil rfl
      obtain ⟨A4, c4, hsl4⟩ : ∃ A c, sl4 = .slice A r.ids.length c := by obtain ⟨A, c, h, _⟩ := hr4; exact ⟨A, c, h⟩
      subst hsl4
      have HB4 := Lib.hid (HBr.out.trans (hb4.mono HBr.out.size))
      have HR4 := Lib.hid hr4.rd
      clear hev hr4 hb4 HRC z0
      have hb5 : Below w4.heap.size w4 (w4.alloc (.cells #[VT r.name, .int .i64 r.len, .int .u32 (r.print : Int), .slice A4 r.ids.length c4] 65)) := (Below.refl _ _).alloc (Nat.le_refl _) _
      have HB5 := Lib.hid (HB4.out.trans (hb5.mono HB4.out.size))
      have BX5 := Lib.hid (Box4.mk' w4 (VT r.name) (.int .i64 r.len) (.int .u32 (r.print : Int)) (.slice A4 r.ids.length c4) 65)
      have hb0 := HB5.out
      have C05 := Lib.hid (HM.out.below hb0).c0
      have hm5 : m < (w4.alloc (.cells #[VT r.name, .int .i64 r.len, .int .u32 (r.print : Int), .slice A4 r.ids.length c4] 65)).heap.size := Nat.lt_of_lt_of_le hml hb0.size
      have hg5 : g < (w4.alloc (.cells #[VT r.name, .int .i64 r.len, .int .u32 (r.print : Int), .slice A4 r.ids.length c4] 65)).heap.size := Nat.lt_of_lt_of_le hg hb0.size
      have X0 := Lib.hid ((hb0.cell (p := ⟨g, o + k * 4, none⟩) hg).trans Y0.out)
      have X1 := Lib.hid ((hb0.cell (p := ⟨g, o + k * 4 + 1, none⟩) hg).trans Y1.out)
      have X2 := Lib.hid ((hb0.cell (p := ⟨g, o + k * 4 + 2, none⟩) hg).trans Y2.out)
      have X3 := Lib.hid ((hb0.cell (p := ⟨g, o + k * 4 + 3, none⟩) hg).trans Y3.out)
      have HSR : Hid (∀ w', Below (w4.alloc (.cells #[VT r.name, .int .i64 r.len, .int .u32 (r.print : Int), .slice A4 r.ids.length c4] 65)).heap.size (w4.alloc (.cells #[VT r.name, .int .i64 r.len, .int .u32 (r.print : Int), .slice A4 r.ids.length c4] 65)) w' → Calls Tryz.prog 104 #[.agg #[VT r.name, .int .i64 r.len, .int .u32 (r.print : Int), .slice A4 r.ids.length c4], .agg #[VT r.name, .int .i64 r.len, .int .u32 (r.print : Int), .slice A3 r.ids.length c3]] w' fun e w'' => e = .returned (.bool true) ∧ Below w'.heap.size w' w'') := Lib.hid (fun w' hb =>
        SameRecipe_same _ _ r (by omega) w' ⟨_, rfl, (((HR4.out.keep hb5 (Nat.le_refl _)).more hb5.size).keep hb (Nat.le_refl _)).more hb.size⟩ ⟨_, rfl, (((HID.out.keep hb0 (Nat.le_refl _)).more hb0.size).keep hb (Nat.le_refl _)).more hb.size⟩)
      clear hb5 hb0
      go_wp2_with fail
      generalize w4.alloc (.cells #[VT r.name, .int .i64 r.len, .int .u32 (r.print : Int), .slice A4 r.ids.length c4] 65) = w5 at *
      go_wp2
      have hS0 : Below w5.heap.size w5 w5.drew := (Below.refl _ _).drew
      refine region_S (fun w' => Below w5.heap.size w5 w') 9 (by kernel_rfl) (by kernel_rfl) ?_
      refine take_S 0 rfl (by kernel_rfl) (by kernel_rfl) hS0 (fun w' hS => by obtain ⟨A0, A1, A2, A3, _⟩ := BX5.out.below hS BX5.out.lt; go_simp; rfl) ?_
      refine take_S 1 rfl (by kernel_rfl) (by kernel_rfl) hS0 (fun w' hS => by go_simp; rfl) ?_
      refine take_S 2 rfl (by kernel_rfl) (by kernel_rfl) hS0 (fun w' hS => by go_simp; rfl) ?_
      refine take_S 3 rfl (by kernel_rfl) (by kernel_rfl) hS0 (fun w' hS => by go_simp; rfl) ?_
      refine take_S 4 rfl (by kernel_rfl) (by kernel_rfl) hS0 (fun w' hS => by have A0 := (hS.cell (p := ⟨m, 0, none⟩) hm5).trans C05.out; go_simp; rfl) ?_
      refine take_S 5 rfl (by kernel_rfl) (by kernel_rfl) hS0 (fun w' hS => by go_simp; rfl) ?_
      refine take_S 6 rfl (by kernel_rfl) (by kernel_rfl) hS0 (fun w' hS => by go_simp; rfl) ?_
      refine take_S 7 rfl (by kernel_rfl) (by kernel_rfl) hS0 (fun w' hS => by have A0 := (hS.cell (p := ⟨g, o + k * 4, none⟩) hg5).trans X0.out; have A1 := (hS.cell (p := ⟨g, o + k * 4 + 1, none⟩) hg5).trans X1.out; have A2 := (hS.cell (p := ⟨g, o + k * 4 + 2, none⟩) hg5).trans X2.out; have A3 := (hS.cell (p := ⟨g, o + k * 4 + 3, none⟩) hg5).trans X3.out; go_simp; rfl) ?_
      refine carry_S 8 rfl (by kernel_rfl) (by decide) (by kernel_rfl) (fun K hK => ?_)
      go_simp
      refine (HSR.out _ hS0).mono ?_
      rintro e w6 ⟨rfl, hbw6⟩
      have hS1 : Below w5.heap.size w5 w6 := hS0.trans (hbw6.mono hS0.size)
      refine hK _ _ hS1 (forced_S (by kernel_rfl) ?_)
      clear hK K
      try simp only [Act.put, List.getElem_toArray, List.getElem_cons_succ, List.getElem_cons_zero, List.setIfInBounds_toArray, List.set_cons_zero, List.set_cons_succ]
      try simp only [Act.put, List.getElem_toArray, List.getElem_cons_succ, List.getElem_cons_zero, List.setIfInBounds_toArray, List.set_cons_zero, List.set_cons_succ]
      simp only [List.drop_succ_cons, List.drop_zero]
      have HB6' := Lib.hid (HB5.out.trans (hS1.mono HB5.out.size))
      clear hS0 hS1 hbw6
      go_wp2
      go_roundg (E.length - (k + 1))
      case measure => omega
      case rel => exact ⟨k + 1, by go_num, hkl, rfl, HB6'⟩
    · obtain rfl : k = E.length := by omega
      have HBE := Lib.hid HBr.out
      clear HBr HMr
      go_wp2
      go_loopg [9] G.length (fun gh v9 wr => ∃ k : Nat, v9 = .int .i64 k ∧ k ≤ G.length ∧ gh = G.length - k ∧ Hid (Below w.heap.size w wr))
      case atStart => exact ⟨0, rfl, Nat.zero_le _, rfl, HBE⟩
      case round =>
        obtain ⟨k, rfl, hk, hgm, HBr⟩ := hrel
        have HMr := Lib.hid (HM.out.below HBr.out)
        have C1 := HMr.out.c1
        by_cases hkl : k < G.length
        · obtain ⟨BA', bc', hvb, _, hx⟩ := HBB.out
          injection hvb with e1 _ e3
          subst e1; subst e3
          obtain ⟨g, rfl, hg, hcells⟩ := hx (by omega)
          obtain ⟨y0, y1, y2⟩ := hcells k hkl
          have z0 := (HBr.out.cell (p := ⟨g, k * 3, none⟩) hg).trans y0
          have z1 := (HBr.out.cell (p := ⟨g, k * 3 + 1, none⟩) hg).trans y1
          obtain ⟨hgp, hix, hok, hll⟩ := HP.out.binG hkl
          have HBN := Lib.hid (Node.binW HP.out G[k].x hix wr (HN.out.below HBr.out))
          unfold BinPost at HBN
          rw [hgp] at HBN
          have HRB := Lib.hid (HM.out.bin G[k] (List.getElem_mem hkl))
          have HOK := Lib.hid hok
          have Y2 := Lib.hid y2
          have b1 : (0 : Int) ≤ (k : Int) := by omega
          have b2 : (k : Int) < (G.length : Int) := by omega
          generalize G[k].x = x at *
          generalize G[k].L = L at *
          generalize G[k].rb = rb at *
          generalize G[k].v = vq at *
          obtain ⟨AQ, cq, hvq⟩ := own_formI HRB.out.own
          subst hvq
          clear hx hcells y0 y1 y2 hgp hix hok
          go_wp2_with fail
          refine HBN.out.mono ?_
          rintro e w6 ⟨b2, mb2, rfl, hob, _, _, hb6⟩
          have HB6' := Lib.hid (HBr.out.trans (hb6.mono HBr.out.size))
          have HOB6 := Lib.hid hob
          have hb0 := HB6'.out
          have C16 := Lib.hid (HM.out.below hb0).c1
          have hm6 : m < w6.heap.size := Nat.lt_of_lt_of_le hml hb0.size
          have hg6 : g < w6.heap.size := Nat.lt_of_lt_of_le hg hb0.size
          have hrb6 : rb < w6.heap.size := Nat.lt_of_lt_of_le HRB.out.lt hb0.size
          have X2 := Lib.hid ((hb0.cell (p := ⟨g, k * 3 + 2, none⟩) hg).trans Y2.out)
          have RB0 := Lib.hid ((HRB.out.below hb0).cell)
          have RH : Hid (∀ w', Below w6.heap.size w6 w' → RdH2 w' w'.heap.size (.slice AQ L.length cq) L) := Lib.hid (fun w' hb => own_rdH2 ((HRB.out.below hb0).below hb).own)
          clear hob hb6 hb0 HBN z0 z1
          go_wp2
          have hS0 : Below w6.heap.size w6 w6.drew := (Below.refl _ _).drew
          refine region_S (fun w' => Below w6.heap.size w6 w') 14 (by kernel_rfl) (by kernel_rfl) ?_
          refine take_S 0 rfl (by kernel_rfl) (by kernel_rfl) hS0 (fun w' hS => by go_simp; rfl) ?_
          refine take_S 2 rfl (by kernel_rfl) (by kernel_rfl) hS0 (fun w' hS => by go_simp; rfl) ?_
          refine take_S 3 rfl (by kernel_rfl) (by kernel_rfl) hS0 (fun w' hS => by go_simp; rfl) ?_
          refine take_S 4 rfl (by kernel_rfl) (by kernel_rfl) hS0 (fun w' hS => by go_simp; rfl) ?_
          refine take_S 5 rfl (by kernel_rfl) (by kernel_rfl) hS0 (fun w' hS => by have A0 := (hS.cell (p := ⟨m, 1, none⟩) hm6).trans C16.out; go_simp; rfl) ?_
          refine take_S 6 rfl (by kernel_rfl) (by kernel_rfl) hS0 (fun w' hS => by go_simp; rfl) ?_
          refine take_S 7 rfl (by kernel_rfl) (by kernel_rfl) hS0 (fun w' hS => by go_simp; rfl) ?_
          refine take_S 8 rfl (by kernel_rfl) (by kernel_rfl) hS0 (fun w' hS => by go_simp; rfl) ?_
          refine take_S 9 rfl (by kernel_rfl) (by kernel_rfl) hS0 (fun w' hS => by have A0 := (hS.cell (p := ⟨g, k * 3 + 2, none⟩) hg6).trans X2.out; go_simp; rfl) ?_
          refine take_S 10 rfl (by kernel_rfl) (by kernel_rfl) hS0 (fun w' hS => by go_simp; rfl) ?_
          refine take_S 11 rfl (by kernel_rfl) (by kernel_rfl) hS0 (fun w' hS => by go_simp; rfl) ?_
          refine take_S 12 rfl (by kernel_rfl) (by kernel_rfl) hS0 (fun w' hS => by have A0 := (hS.cell (p := ⟨rb, 0, none⟩) hrb6).trans RB0.out; go_simp; rfl) ?_
          refine carry_S 1 rfl (by kernel_rfl) (by decide) (by kernel_rfl) (fun K hK => ?_)
          go_simp
          refine (BnAll_any b2 mb2 L 7500 HOK.out (by omega) _ (HOB6.out.below hS0)).mono ?_
          rintro e w7 ⟨v7, rfl, hown7, hbw7⟩
          obtain ⟨A7, c7, hv7⟩ := own_formI hown7
          subst hv7
          have hSa : Below w6.heap.size w6 w7 := hS0.trans (hbw7.mono hS0.size)
          refine hK _ _ hSa ?_
          clear hK K
          try simp only [Act.put, List.getElem_toArray, List.getElem_cons_succ, List.getElem_cons_zero, List.setIfInBounds_toArray, List.set_cons_zero, List.set_cons_succ]
          refine carry_S 13 rfl (by kernel_rfl) (by decide) (by kernel_rfl) (fun K hK => ?_)
          go_simp
          refine (SameHelds_same _ _ L (by omega) w7.heap.size _ (own_rdH2 hown7) (RH.out _ hSa) (Nat.le_refl _)).mono ?_
          rintro e w8 ⟨rfl, hbw8⟩
          have hS1 : Below w6.heap.size w6 w8 := hSa.trans (hbw8.mono hSa.size)
          refine hK _ _ hS1 (forced_S (by kernel_rfl) ?_)
          clear hK K
          try simp only [Act.put, List.getElem_toArray, List.getElem_cons_succ, List.getElem_cons_zero, List.setIfInBounds_toArray, List.set_cons_zero, List.set_cons_succ]
          try simp only [Act.put, List.getElem_toArray, List.getElem_cons_succ, List.getElem_cons_zero, List.setIfInBounds_toArray, List.set_cons_zero, List.set_cons_succ]
          simp only [List.drop_succ_cons, List.drop_zero]
          have HB7' := Lib.hid (HB6'.out.trans (hS1.mono HB6'.out.size))
          clear hS0 hSa hS1 hown7 hbw7 hbw8
          go_wp2
          go_roundg (G.length - (k + 1))
          case measure => omega
          case rel => exact ⟨k + 1, by go_num, hkl, rfl, HB7'⟩
        · obtain rfl : k = G.length := by omega
          go_wp2
          go_ret
          exact ⟨rfl, HBr.out⟩
end Go.Proofs.YtpanoplcamdnkaaGreatDoor

/- Nodes in memory: walks of Recipe, Get. Conditions: the sentinels that are read lie as named (SomeS). -/
import Derived.Test.YtpanoplcamdnkaaGreatDoorNod1
import Derived.Test.YtpanoplcamdnkaaGreatDoorRcq3
namespace Go.Proofs.YtpanoplcamdnkaaGreatDoor
open Go.RowKit Go.Lib Go.Maps Go.WideMaps

/-- the recipe of a file: an error's number, the recipe -/
def recN (nm : Bytes) (P : PNode) : Int × Rcp := match alGet P.files nm with | none => (5, rcpZero) | some r => (0, r)
theorem cell_oneG (w : World) (x : Value) (t : TypeId) : ∀ j q, [x][j]? = some q → (w.alloc (.cells #[x] t)).cell? ((⟨w.heap.size, 0, none⟩ : Addr).add j) = some q := by
  intro j q hj
  rw [add_eqM, Nat.zero_add, World.cell?_alloc_at _ _ _ _ rfl]
  match j, hj with
  | 0, hj => exact hj
  | j + 1, hj => simp at hj
theorem info_stringG : (Tryz.prog.info? 9).map (fun i => (i.zero, i.size, i.bytes)) = some (some (.string ByteArray.empty), 1, 16) := by kernel_rfl
theorem Box4.setF {b d j : Nat} {x y z u : Value} {w : World} (h : Box4 b x y z u w) (hd : b ≠ d) (v : Value) : Box4 b x y z u (w.setCell ⟨d, j, none⟩ v) :=
  have far : ∀ i, (⟨d, j, none⟩ : Addr) ≠ ⟨b, i, none⟩ := fun i e => by injection e with e; exact hd e.symm
  ⟨(World.cell?_setCell_other _ _ _ _ (far 0)).trans h.c0, (World.cell?_setCell_other _ _ _ _ (far 1)).trans h.c1, (World.cell?_setCell_other _ _ _ _ (far 2)).trans h.c2, (World.cell?_setCell_other _ _ _ _ (far 3)).trans h.c3, fun i => by rw [World.frozen?_setCell]; exact h.f i⟩
theorem ONode.fileW {n fm bm : Nat} {F : FL} {B : BL} {w : World} (h : ONode n fm bm F B w) (hP : NodeW (plainNode F B)) {nm : Bytes} {fe : FE} (hg : alGet F nm = some fe) : RdI w w.heap.size fe.sl fe.r.ids ∧ fe.r.ids.length ≤ 250 ∧ alGet (plainNode F B).files nm = some fe.r := by
  have h1 : alGet (plainNode F B).files nm = some fe.r := by
    show alGet (alMap FE.r F) nm = _
    rw [alGet_map, hg]; rfl
  exact ⟨h.rd _ (alGet_mem hg), (hP.fk _ (alGet_mem h1)).2, h1⟩
theorem ONode.file {n fm bm : Nat} {F : FL} {B : BL} {w : World} (h : ONode n fm bm F B w) (hP : NodeOk (plainNode F B)) {nm : Bytes} {fe : FE} (hg : alGet F nm = some fe) : RdI w w.heap.size fe.sl fe.r.ids ∧ fe.r.ids.length ≤ 250 ∧ alGet (plainNode F B).files nm = some fe.r := by
  have h1 : alGet (plainNode F B).files nm = some fe.r := by
    show alGet (alMap FE.r F) nm = _
    rw [alGet_map, hg]; rfl
  exact ⟨h.rd _ (alGet_mem hg), hP.ids _ (alGet_mem h1), h1⟩
set_option maxRecDepth 100000 in
set_option maxHeartbeats 1000000 in
theorem NdRecipe_any (a : Nat → Addr) (n fm bm : Nat) (F : FL) (B : BL) (hP : NodeW (plainNode F B)) (nm : Bytes) (hn : StrOk nm) (w : World) (h : ONode n fm bm F B w) (hs : SomeS [4] a w) :
    Calls Tryz.prog 46 #[.pointer (some ⟨n, 0, none⟩), .string (bs nm)] w fun e w' => ∃ v r, e = .returned (.tuple #[v, r]) ∧ EV a r (recN nm (plainNode F B)).1 (-1) w' ∧ RcpW w' w.heap.size w'.heap.size v (recN nm (plainNode F B)).2 ∧ Below w.heap.size w w' := by
  have hb0 : Below w.heap.size w (w.alloc (.cells #[.string ⟨#[]⟩, .int .i64 0, .int .u32 0, .slice none 0 0] 65)) := (Below.refl _ w).alloc (Nat.le_refl _) _
  have HWR := Lib.hid (Box4.mk' w (.string ⟨#[]⟩) (.int .i64 0) (.int .u32 0) (.slice none 0 0) 65)
  have HB0 := Lib.hid hb0
  have HN := Lib.hid (h.below hb0)
  have HS := Lib.hid (hs.below hb0)
  have hg4 : 2 < w.heap.size := World.block_lt_of_cell? w _ (hs 4 (by simp))
  have LK := fun w' (h' : ONode n fm bm F B w') => h'.files.look strRd (ONode.keysFW hP) Tryz.underlying102 (zeroFE w') hn
  cases hgf : alGet F nm with
  | none =>
    have HE : Hid (recN nm (plainNode F B) = (5, rcpZero)) := Lib.hid (by unfold recN; rw [show alGet (plainNode F B).files nm = none by show alGet (alMap FE.r F) nm = _; rw [alGet_map, hgf]; rfl])
    rw [hgf] at LK
    simp only [Option.map_none, Option.getD_none, Option.isSome_none] at LK
    have HLK := Lib.hid LK
    clear LK hgf h hP hn hb0 hs
    have c0 := HN.out.c0
    have lk := HLK.out _ HN.out
    have hz := HB0.out.size
    go_enter Tryz.func46, Tryz.ntmps46
    go_wp2_with fail
    generalize w.alloc (.cells #[.string ⟨#[]⟩, .int .i64 0, .int .u32 0, .slice none 0 0] 65) = w1 at *
    have hb1 : Below w1.heap.size w1 (w1.alloc (.cells #[.string ByteArray.empty, .int .i64 0, .int .u32 0, .slice none 0 0] 65)) := (Below.refl _ w1).alloc (Nat.le_refl _) _
    have hbr := HWR.out.below hb1 HWR.out.lt
    have HBR := Lib.hid hbr
    obtain ⟨c0', c1, c2, c3, hf⟩ := hbr
    have f0 := hf 0
    have f1 := hf 1
    have f2 := hf 2
    have f3 := hf 3
    have hs3 : (w1.alloc (.cells #[.string ByteArray.empty, .int .i64 0, .int .u32 0, .slice none 0 0] 65)).cell? ⟨2, 0, none⟩ = some (sval a 4) := (HS.out.below hb1) 4 (by simp)
    unfold sval at hs3
    obtain ⟨d0, d1, d2, d3, _⟩ := HBR.out.set (.string ⟨#[]⟩) (.int .i64 0) (.int .u32 0) (.slice none 0 0)
    have hne : ¬ (2 = w.heap.size) := by omega
    have HB9 := Lib.hid (below_set4 (HB0.out.trans (hb1.mono HB0.out.size)) (Nat.le_refl _) (.string ⟨#[]⟩) (.int .i64 0) (.int .u32 0) (.slice none 0 0)).drew
    generalize w1.alloc (.cells #[.string ByteArray.empty, .int .i64 0, .int .u32 0, .slice none 0 0] 65) = w2 at *
    clear hf hb1 lk c0 hz
    go_region
    go_wp2
    refine bodyPost_ret (v := .tuple #[zeroV, .iface 361 (.pointer (some (a 4)))]) (by simp [results, Tryz.results46, go_sem, d0, d1, d2, d3, zeroV]) rfl ?_
    exact ⟨zeroV, _, rfl, by rw [HE.out]; exact EV.sent a _ 4 (by decide), by rw [HE.out]; exact RcpW.zero _ _ _, HB9.out⟩
  | some fe =>
    obtain ⟨hrd, hil, hgp⟩ := h.fileW hP hgf
    have HE : Hid (recN nm (plainNode F B) = (0, fe.r)) := Lib.hid (by unfold recN; rw [hgp])
    rw [hgf] at LK
    simp only [Option.map_some, Option.getD_some, Option.isSome_some] at LK
    unfold feV at LK
    have HLK := Lib.hid LK
    have HRD := Lib.hid (hrd.keep hb0 (Nat.le_refl _))
    obtain ⟨SA, sc, hsl⟩ : ∃ A c, fe.sl = .slice A fe.r.ids.length c := by obtain ⟨A, c, h, _⟩ := hrd; exact ⟨A, c, h⟩
    rw [hsl] at HLK HRD
    clear LK hgf h hP hn hb0 hs hrd hgp
    have c0 := HN.out.c0
    have lk := HLK.out _ HN.out
    have hz := HB0.out.size
    go_enter Tryz.func46, Tryz.ntmps46
    go_wp2_with fail
    have HZ1 : Hid ((w.alloc (.cells #[.string ⟨#[]⟩, .int .i64 0, .int .u32 0, .slice none 0 0] 65)).heap.size = w.heap.size + 1) := Lib.hid (by simp)
    generalize w.alloc (.cells #[.string ⟨#[]⟩, .int .i64 0, .int .u32 0, .slice none 0 0] 65) = w1 at *
    have hb1 : Below w1.heap.size w1 (w1.alloc (.cells #[VT fe.r.name, .int .i64 fe.r.len, .int .u32 (fe.r.print : Int), .slice SA fe.r.ids.length sc] 65)) := (Below.refl _ w1).alloc (Nat.le_refl _) _
    have HX2 := Lib.hid (Box4.mk' w1 (VT fe.r.name) (.int .i64 fe.r.len) (.int .u32 (fe.r.print : Int)) (.slice SA fe.r.ids.length sc) 65)
    have HWR2 := Lib.hid (HWR.out.below hb1 HWR.out.lt)
    have HB2 := Lib.hid (HB0.out.trans (hb1.mono HB0.out.size))
    have HCL := Lib.hid (ClnI_any (.slice SA fe.r.ids.length sc) fe.r.ids (by omega) (w1.alloc (.cells #[VT fe.r.name, .int .i64 fe.r.len, .int .u32 (fe.r.print : Int), .slice SA fe.r.ids.length sc] 65)) ((HRD.out.keep (hb1.mono hz) (Nat.le_refl _)).more (Nat.le_trans hz hb1.size)))
    have hz1 : w1.heap.size = w.heap.size + 1 := HZ1.out
    rw [hz1] at HX2
    have hz2 : (w1.alloc (.cells #[VT fe.r.name, .int .i64 fe.r.len, .int .u32 (fe.r.print : Int), .slice SA fe.r.ids.length sc] 65)).heap.size = w.heap.size + 2 := by simp [hz1]
    generalize w1.alloc (.cells #[VT fe.r.name, .int .i64 fe.r.len, .int .u32 (fe.r.print : Int), .slice SA fe.r.ids.length sc] 65) = w2 at *
    obtain ⟨e0, e1, e2, e3, _⟩ := HX2.out
    clear hb1 lk c0
    go_wp2_with fail
    refine HCL.out.mono ?_
    rintro e w3 ⟨v3, rfl, hrd3, hb3⟩
    obtain ⟨A3, c3', hv3⟩ : ∃ A c, v3 = .slice A fe.r.ids.length c := by obtain ⟨A, c, h, _⟩ := hrd3; exact ⟨A, c, h⟩
    subst hv3
    have HX3 := Lib.hid (HX2.out.below hb3 HX2.out.lt)
    have HW3 := Lib.hid (HWR2.out.below hb3 HWR2.out.lt)
    have HB3 := Lib.hid (HB2.out.trans (hb3.mono HB2.out.size))
    have HX4 := Lib.hid (HX3.out.set3 (.slice A3 fe.r.ids.length c3'))
    have HW4 := Lib.hid (HW3.out.setF (j := 3) (show w.heap.size ≠ w.heap.size + 1 by omega) (.slice A3 fe.r.ids.length c3'))
    have HP : Hid (RcpW ((((((w3.setCell ⟨w.heap.size + 1, 3, none⟩ (.slice A3 fe.r.ids.length c3')).setCell ⟨w.heap.size, 0, none⟩ (VT fe.r.name)).setCell ⟨w.heap.size, 1, none⟩ (.int .i64 fe.r.len)).setCell ⟨w.heap.size, 2, none⟩ (.int .u32 (fe.r.print : Int))).setCell ⟨w.heap.size, 3, none⟩ (.slice A3 fe.r.ids.length c3'))) w.heap.size w3.heap.size (.agg #[VT fe.r.name, .int .i64 fe.r.len, .int .u32 (fe.r.print : Int), (.slice A3 fe.r.ids.length c3')]) fe.r) := Lib.hid
      ⟨_, rfl, hrd3.keep (fun p h1 h2 => (cell_set4 _ _ _ _ _ (by omega)).trans (World.cell?_setCell_other _ _ _ _ (by intro e; rw [← e] at h1; simp only at h1; omega))) (by omega) (Nat.le_refl _)⟩
    have hz9 := size_set4 (w3.setCell ⟨w.heap.size + 1, 3, none⟩ (.slice A3 fe.r.ids.length c3')) w.heap.size (VT fe.r.name) (.int .i64 fe.r.len) (.int .u32 (fe.r.print : Int)) (.slice A3 fe.r.ids.length c3')
    have hz9' : (w3.setCell ⟨w.heap.size + 1, 3, none⟩ (.slice A3 fe.r.ids.length c3')).heap.size = w3.heap.size := by simp [World.setCell]
    rw [hz9'] at hz9
    have HZ9 := Lib.hid hz9
    have HB9 := Lib.hid (below_set4 (HB3.out.setCell (p := ⟨w.heap.size + 1, 3, none⟩) (Nat.le_succ _) (.slice A3 fe.r.ids.length c3')) (Nat.le_refl _) (VT fe.r.name) (.int .i64 fe.r.len) (.int .u32 (fe.r.print : Int)) (.slice A3 fe.r.ids.length c3'))
    obtain ⟨d0, d1, d2, d3, _⟩ := HW4.out.set (VT fe.r.name) (.int .i64 fe.r.len) (.int .u32 (fe.r.print : Int)) (.slice A3 fe.r.ids.length c3')
    obtain ⟨g0, g1, g2, g3, gf⟩ := HX3.out
    have gf3 := gf 3
    obtain ⟨k0, k1, k2, k3, kf⟩ := HX4.out
    obtain ⟨m0, m1, m2, m3, mf⟩ := HW4.out
    have f0 := mf 0
    have f1 := mf 1
    have f2 := mf 2
    have f3 := mf 3
    clear gf kf mf hrd3 hb3 e0 e1 e2 e3 hz9 hz9'
    go_wp2
    refine bodyPost_ret (v := .tuple #[.agg #[VT fe.r.name, .int .i64 fe.r.len, .int .u32 (fe.r.print : Int), (.slice A3 fe.r.ids.length c3')], .nilIface]) (by simp [results, Tryz.results46, go_sem, d0, d1, d2, d3]) rfl ?_
    exact ⟨_, _, rfl, by rw [HE.out]; exact EV.none a _, by rw [HE.out, HZ9.out]; exact HP.out, HB9.out⟩
/-! ### getting -/
theorem rcpB_of {nm s : Bytes} (hn : isName nm = true) (hs : s.length ≤ 4000) : RcpB (rcpOf nm s) where
  n := by have := isName_le hn; show nm.length ≤ _; omega
  l0 := by show (-9223372036854775808 : Int) ≤ ((s.length : Nat) : Int); omega
  l1 := by show ((s.length : Nat) : Int) ≤ _; omega
  p := prOf_lt _
  c := by have := idsOf_le hs; show (idsOf s).length ≤ _; omega
  i := fun x hx => by
    obtain ⟨p, hp, rfl⟩ := List.mem_map.1 hx
    have := (idOf_ok0 (pieces_max s p hp)).1
    exact ⟨this.1, this.2.1, this.2.2⟩
def GetPost (a : Nat → Addr) (q : Bytes × Int) (w : World) (e : Ending) (w' : World) : Prop := ∃ r, e = .returned (.tuple #[VT q.1, r]) ∧ ES a r q.2 ∧ Below w.heap.size w w'
theorem getRes_text {L : HldL} {x : Idn} (h : (getB L x).isSome = true) : getRes L x = (textB L x, 0) := by
  obtain ⟨o, ho⟩ := Option.isSome_iff_exists.1 h
  unfold getRes textB
  rw [ho]; rfl
set_option maxRecDepth 100000 in
set_option maxHeartbeats 4000000 in
theorem NdGet_any (a : Nat → Addr) (n fm bm : Nat) (F : FL) (B : BL) (hP : NodeOk (plainNode F B)) (nm : Bytes) (hn : StrOk nm) (w : World) (h : ONode n fm bm F B w) (hs : SomeS [1, 2, 3, 4, 6, 8] a w) :
    Calls Tryz.prog 16 #[.pointer (some ⟨n, 0, none⟩), .string (bs nm)] w (GetPost a (getN nm (plainNode F B)) w) := by
  have LK := fun w' (h' : ONode n fm bm F B w') => h'.files.look strRd (h.keysF hP) Tryz.underlying102 (zeroFE w') hn
  have c0 := h.c0
  cases hgf : alGet F nm with
  | none =>
    have HE : Hid (getN nm (plainNode F B) = ([], 5)) := Lib.hid (by unfold getN; rw [show alGet (plainNode F B).files nm = none by show alGet (alMap FE.r F) nm = _; rw [alGet_map, hgf]; rfl])
    rw [hgf] at LK
    simp only [Option.map_none, Option.getD_none, Option.isSome_none] at LK
    have lk := LK w h
    have hb1 : Below w.heap.size w (w.alloc (.cells #[.string ByteArray.empty, .int .i64 0, .int .u32 0, .slice none 0 0] 65)) := (Below.refl _ w).alloc (Nat.le_refl _) _
    have HB1 := Lib.hid hb1
    have s4 : (w.alloc (.cells #[.string ByteArray.empty, .int .i64 0, .int .u32 0, .slice none 0 0] 65)).cell? ⟨2, 0, none⟩ = some (sval a 4) := (hs.below hb1) 4 (by simp)
    unfold sval at s4
    unfold GetPost
    clear LK hgf h hP hn hb1 hs
    go_enter Tryz.func16, Tryz.ntmps16
    go_wp2
    go_quiet (fail)
    go_wp2
    go_ret2
    exact ⟨_, by rw [HE.out]; rfl, by rw [HE.out]; exact ES.sent a 4 (by decide), below_drewN HB1.out _⟩
  | some fe =>
    obtain ⟨hrd, hil, hgp⟩ := h.file hP hgf
    obtain ⟨s, hnm, hsz, hr, hgn, L, hgL, hmp, hall⟩ := hP.get hgp
    have HE : Hid (getN nm (plainNode F B) = (s, 0)) := Lib.hid hgn
    obtain ⟨be, hgb, hbL⟩ : ∃ be, alGet B (repR fe.r) = some be ∧ be.L = L := by
      have : alGet (alMap BE.L B) (repR fe.r) = some L := hgL
      rw [alGet_map] at this
      cases hb : alGet B (repR fe.r) with
      | none => rw [hb] at this; cases this
      | some be => rw [hb] at this; injection this with this; exact ⟨be, rfl, this⟩
    have hrix : IdOk (repR fe.r) := (hP.bin _ _ hgL).1.1
    have LKB := fun w' (h' : ONode n fm bm F B w') => h'.bins.at idRd (h.keysB hP) Tryz.underlying103 (zeroBE w') hrix
    rw [hgb] at LKB
    simp only [Option.map_some, Option.getD_some] at LKB
    unfold beV at LKB
    have HLB := Lib.hid LKB
    rw [hgf] at LK
    simp only [Option.map_some, Option.getD_some, Option.isSome_some] at LK
    unfold feV at LK
    have HOB : Hid (∀ w', ONode n fm bm F B w' → OBin be.b be.mb L w') := Lib.hid (fun w' h' => hbL ▸ h'.bin (_, be) (alGet_mem hgb))
    have HLI : Hid (∀ y ∈ L, IdOk y.id) := Lib.hid (hP.bin7 hgL).idok
    have hri : fe.r.ids = idsOf s := by rw [hr]; rfl
    have HRI := Lib.hid hri
    have HALL : Hid (∀ x ∈ fe.r.ids, getRes L x = (textB L x, 0) ∧ IdOk x) := Lib.hid (fun x hx => by
      rw [hri] at hx
      refine ⟨getRes_text (hall x hx), ?_⟩
      obtain ⟨p, hp, rfl⟩ := List.mem_map.1 hx
      exact (idOf_ok0 (pieces_max s p hp)).1)
    have HMP : Hid (fe.r.ids.map (textB L) = pieces s) := Lib.hid (by rw [hri]; exact hmp)
    have HJ : Hid (joinRes fe.r (pieces s) = (s, 0, -1)) := Lib.hid (by rw [hr]; exact joinRes_of hnm hsz)
    have HRB : Hid (RcpB fe.r) := Lib.hid (by rw [hr]; exact rcpB_of hnm hsz)
    have HPM : Hid (∀ p ∈ pieces s, p.length ≤ 64) := Lib.hid (fun p hp => pieces_max s p hp)
    obtain ⟨SA, sc, hsl⟩ : ∃ A c, fe.sl = .slice A fe.r.ids.length c := by obtain ⟨A, c, h, _⟩ := hrd; exact ⟨A, c, h⟩
    rw [hsl] at LK hrd
    have lk := LK w h
    have HN := Lib.hid h
    have HRD := Lib.hid hrd
    have HS := Lib.hid hs
    have hrep : repR fe.r = repOf fe.r.ids := rfl
    rw [hrep] at HLB
    obtain ⟨i0, hi, hz0, hz1', hz2'⟩ := info_parts info_stringG
    unfold GetPost
    clear LK LKB hgf h hP hn hs hrd hgp hgn hgL hmp hall hr hri hgb hbL hrix hrep
    have hb1 : Below w.heap.size w (w.alloc (.cells #[VT fe.r.name, .int .i64 fe.r.len, .int .u32 (fe.r.print : Int), .slice SA fe.r.ids.length sc] 65)) := (Below.refl _ w).alloc (Nat.le_refl _) _
    have HX1 := Lib.hid (Box4.mk' w (VT fe.r.name) (.int .i64 fe.r.len) (.int .u32 (fe.r.print : Int)) (.slice SA fe.r.ids.length sc) 65)
    have HB1 := Lib.hid hb1
    have HN1 := Lib.hid (HN.out.below hb1)
    have hz1 := hb1.size
    go_enter Tryz.func16, Tryz.ntmps16
    go_wp2
    generalize w.alloc (.cells #[VT fe.r.name, .int .i64 fe.r.len, .int .u32 (fe.r.print : Int), .slice SA fe.r.ids.length sc] 65) = w1 at *
    clear hb1 lk c0
    have hS0 : Below w1.heap.size w1 w1.drew := (Below.refl _ _).drew
    refine region_S (fun w' => Below w1.heap.size w1 w') 7 (by kernel_rfl) (by kernel_rfl) ?_
    refine take_S 0 rfl (by kernel_rfl) (by kernel_rfl) hS0 (fun w' hS => by go_simp; rfl) ?_
    refine take_S 1 rfl (by kernel_rfl) (by kernel_rfl) hS0 (fun w' hS => by go_simp; rfl) ?_
    refine take_S 2 rfl (by kernel_rfl) (by kernel_rfl) hS0 (fun w' hS => by go_simp; rfl) ?_
    refine take_S 3 rfl (by kernel_rfl) (by kernel_rfl) hS0 (fun w' hS => by have A0 := (HN1.out.below hS).c1; go_simp; rfl) ?_
    refine take_S 4 rfl (by kernel_rfl) (by kernel_rfl) hS0 (fun w' hS => by obtain ⟨e0, e1, e2, e3, _⟩ := HX1.out.below hS HX1.out.lt; go_simp; rfl) ?_
    refine carry_S 5 rfl (by kernel_rfl) (by decide) (by kernel_rfl) (fun K hK => ?_)
    go_simp
    refine (RcRep_any (.agg #[VT fe.r.name, .int .i64 fe.r.len, .int .u32 (fe.r.print : Int), .slice SA fe.r.ids.length sc]) fe.r (by omega) _ ⟨_, rfl, (HRD.out.keep (HB1.out.trans (hS0.mono hz1)) (Nat.le_refl _)).more (Nat.le_trans hz1 hS0.size)⟩).mono ?_
    rintro e w2 ⟨rfl, hbw2⟩
    have hS1 : Below w1.heap.size w1 w2 := hS0.trans (hbw2.mono hS0.size)
    refine hK _ _ hS1 ?_
    clear hK K
    try simp only [Act.put, List.getElem_toArray, List.getElem_cons_succ, List.getElem_cons_zero, List.setIfInBounds_toArray, List.set_cons_zero, List.set_cons_succ]
    refine take_S 6 rfl (by kernel_rfl) (by kernel_rfl) hS1 (fun w' hS => by have A0 := HLB.out w' (HN1.out.below hS); go_simp; rfl) (forced_S (by kernel_rfl) ?_)
    try simp only [Act.put, List.getElem_toArray, List.getElem_cons_succ, List.getElem_cons_zero, List.setIfInBounds_toArray, List.set_cons_zero, List.set_cons_succ]
    simp only [List.drop_succ_cons, List.drop_zero]
    have HX2 := Lib.hid (HX1.out.below hS1 HX1.out.lt)
    have HB2 := Lib.hid (HB1.out.trans (hS1.mono hz1))
    have HO2 := Lib.hid (HOB.out w2 (HN1.out.below hS1))
    have hz2 := HB2.out.size
    have hlt2 := HX2.out.lt
    have HRF := Lib.hid (HRD.out.form)
    obtain ⟨e0, e1, e2, e3, _⟩ := HX2.out
    clear hS0 hS1 hbw2 HN1 HN HB1 HX1 HLB HOB
    go_wp2
    clear e0 e1 e2 e3
    go_loopg [9, 38] fe.r.ids.length (fun gh v9 v38 wr => ∃ k : Nat, v38 = .int .i64 k ∧ k ≤ fe.r.ids.length ∧ gh = fe.r.ids.length - k ∧ wr.ownsRow w2.heap.size 9 1 v9 k (((fe.r.ids.take k).map (textB L)).map VT) ∧ Below w2.heap.size w2 wr)
    case atStart => exact ⟨0, rfl, Nat.zero_le _, rfl, World.ownsRow_nil _ _ _ _, Below.refl _ _⟩
    case round =>
      obtain ⟨k, rfl, hk, hgm, hrow, hB⟩ := hrel
      have HRW := Lib.hid hrow
      have HBR := Lib.hid hB
      have hzr := hB.size
      clear hrow hB
      by_cases hkl : k < fe.r.ids.length
      · obtain ⟨A', c', hvv, _, hx⟩ := HRF.out
        obtain ⟨g, o, hA, hg, hcell⟩ := hx (by omega)
        injection hvv with hv1 _ hv3
        subst hv1
        subst hv3
        subst hA
        have hbb := HB2.out.trans (HBR.out.mono hz2)
        obtain ⟨x0, x1⟩ := hcell k hkl
        have y0 := (hbb.cell (p := ⟨g, o + k * 2, none⟩) hg).trans x0
        have y1 := (hbb.cell (p := ⟨g, o + k * 2 + 1, none⟩) hg).trans x1
        obtain ⟨hgr, hidx⟩ := HALL.out fe.r.ids[k] (List.getElem_mem hkl)
        have b1 : (0 : Int) ≤ (k : Int) := by omega
        have b2 : (k : Int) < (fe.r.ids.length : Int) := by omega
        have hpl : (textB L fe.r.ids[k]).length ≤ 64 := HPM.out _ (by rw [← HMP.out]; exact List.mem_map_of_mem (List.getElem_mem hkl))
        have HT : Hid (((fe.r.ids.take (k + 1)).map (textB L)).map VT = ((fe.r.ids.take k).map (textB L)).map VT ++ [VT (textB L fe.r.ids[k])]) := Lib.hid (by rw [List.take_succ_eq_append_getElem hkl, List.map_append, List.map_append]; rfl)
        have hb3 : Below wr.heap.size wr (wr.alloc (.cells #[.int .u32 (fe.r.ids[k].1 : Int), .int .i64 fe.r.ids[k].2] 47)) := (Below.refl _ _).alloc (Nat.le_refl _) _
        have HGET := Lib.hid (BnGet_any a be.b be.mb L HLI.out fe.r.ids[k] hidx _ (HO2.out.below (HBR.out.trans (hb3.mono hzr))) ((HS.out.below (hbb.trans (hb3.mono (Nat.le_trans hz2 hzr)))).sub (js := [4]) (by decide)))
        rw [hgr] at HGET
        generalize fe.r.ids[k] = x at *
        generalize textB L x = t at *
        have HB3 := Lib.hid hb3
        clear hcell hx x0 x1 hbb hgr hidx hb3
        go_wp2_with fail
        refine HGET.out.mono ?_
        rintro e w4 ⟨r4, rfl, hev, hb4⟩
        obtain ⟨rfl, _⟩ := hev.nil rfl
        have HB4 := Lib.hid (HB3.out.trans (hb4.mono HB3.out.size))
        have HO4 := Lib.hid (own_belowI HRW.out HB4.out)
        have hz4 := HB4.out.size
        clear hev hb4 y0 y1
        go_wp2_with (at_builtin; refine wpList_append_own _ rfl _ _ 27 rfl w2.heap.size 9 i0 (.string ByteArray.empty) 1 16 Tryz.underlying27 hi hz0 hz1' hz2' rfl (by decide) _ _ _ rfl (HO4.out.alloc _) ⟨w4.heap.size, 0, none⟩ 1 1 [.string (bs t)] rfl rfl (cell_oneG _ _ _) (by simp [Value.oneCell']) (by unfold maxLen; omega) (by omega) (by simp; omega) ?_; intro v5 w5 ho5 hg5 _)
        go_roundg (fe.r.ids.length - (k + 1))
        case measure => omega
        case rel => exact ⟨k + 1, by go_num, hkl, rfl, by rw [HT.out]; exact ho5, ((HBR.out.trans (HB4.out.mono hzr)).alloc (Nat.le_trans hzr hz4) _).grown hg5 (by simp; omega) (fun j hj => own_ge HRW.out hj)⟩
      · obtain rfl : k = fe.r.ids.length := by omega
        have hrw := HRW.out
        rw [List.take_of_length_le (Nat.le_refl _), HMP.out] at hrw
        have hpn : (pieces s).length = fe.r.ids.length := by rw [← HMP.out, List.length_map]
        have hX := HX2.out.below HBR.out hlt2
        obtain ⟨A9, c9, rfl⟩ := own_formI hrw
        have HJN := Lib.hid (RcJoin_any a (.agg #[VT fe.r.name, .int .i64 fe.r.len, .int .u32 (fe.r.print : Int), .slice SA fe.r.ids.length sc]) (.slice A9 fe.r.ids.length c9) fe.r HRB.out (pieces s) (by omega) (fun p hp => by have := HPM.out p hp; omega) wr ⟨_, rfl, (HRD.out.keep (HB2.out.trans (HBR.out.mono hz2)) (Nat.le_refl _)).more (Nat.le_trans hz2 hzr)⟩ (Rd.own hrw) ((HS.out.below (HB2.out.trans (HBR.out.mono hz2))).sub (js := [1, 2, 3, 6, 8]) (by decide)))
        unfold JoinPost at HJN
        rw [HJ.out] at HJN
        obtain ⟨e0, e1, e2, e3, _⟩ := hX
        clear hrw hpn
        go_wp2_with fail
        refine HJN.out.mono ?_
        rintro e w4 ⟨x4, rfl, hev, hb4⟩
        obtain ⟨rfl, _⟩ := hev.nil rfl
        have HB4 := Lib.hid ((HB2.out.trans (HBR.out.mono hz2)).trans (hb4.mono (Nat.le_trans hz2 hzr)))
        clear hb4 e0 e1 e2 e3
        go_wp2_with fail
        refine (RcBare_any a .nilIface 0 (-1) w4 hev).mono ?_
        rintro e w5 ⟨x5, rfl, hes, hb5⟩
        have HB5 := Lib.hid (HB4.out.trans (hb5.mono HB4.out.size))
        have HES := Lib.hid hes
        clear hb5 hes hev
        go_wp2
        go_ret2
        exact ⟨_, by rw [HE.out]; rfl, by rw [HE.out]; exact HES.out, HB5.out⟩
end Go.Proofs.YtpanoplcamdnkaaGreatDoor

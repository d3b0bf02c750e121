/- Nodes in memory: walks of Recipe, Get. Conditions: the sentinels that are read lie as named (SomeS). -/
import Derived.Test.YtpanoplcamdnkaaGreatDoorNod1
import Derived.Test.YtpanoplcamdnkaaGreatDoorRcq3
namespace Go.Proofs.YtpanoplcamdnkaaGreatDoor
open Go.RowKit Go.Lib Go.Maps Go.WideMaps

/-- the recipe of a file: an error's number, the recipe -/
def recN (nm : Bytes) (P : PNode) : Int × Rcp := match alGet P.files nm with | none => (5, rcpZero) | some r => (0, r)
theorem Box4.setF {b d j : Nat} {x y z u : Value} {w : World} (h : Box4 b x y z u w) (hd : b ≠ d) (v : Value) : Box4 b x y z u (w.setCell ⟨d, j, none⟩ v) :=
  have far : ∀ i, (⟨d, j, none⟩ : Addr) ≠ ⟨b, i, none⟩ := fun i e => by injection e with e; exact hd e.symm
  ⟨(World.cell?_setCell_other _ _ _ _ (far 0)).trans h.c0, (World.cell?_setCell_other _ _ _ _ (far 1)).trans h.c1, (World.cell?_setCell_other _ _ _ _ (far 2)).trans h.c2, (World.cell?_setCell_other _ _ _ _ (far 3)).trans h.c3, fun i => by rw [World.frozen?_setCell]; exact h.f i⟩
theorem ONode.file {n fm bm : Nat} {F : FL} {B : BL} {w : World} (h : ONode n fm bm F B w) (hP : NodeOk (plainNode F B)) {nm : Bytes} {fe : FE} (hg : alGet F nm = some fe) : RdI w w.heap.size fe.sl fe.r.ids ∧ fe.r.ids.length ≤ 250 ∧ alGet (plainNode F B).files nm = some fe.r := by
  have h1 : alGet (plainNode F B).files nm = some fe.r := by
    show alGet (alMap FE.r F) nm = _
    rw [alGet_map, hg]; rfl
  exact ⟨h.rd _ (alGet_mem hg), hP.ids _ (alGet_mem h1), h1⟩
set_option maxRecDepth 100000 in
set_option maxHeartbeats 1000000 in
theorem NdRecipe_any (a : Nat → Addr) (n fm bm : Nat) (F : FL) (B : BL) (hP : NodeOk (plainNode F B)) (nm : Bytes) (hn : StrOk nm) (w : World) (h : ONode n fm bm F B w) (hs : SomeS [4] a w) :
    Calls Tryz.prog 46 #[.pointer (some ⟨n, 0, none⟩), .string (bs nm)] w fun e w' => ∃ v r, e = .returned (.tuple #[v, r]) ∧ EV a r (recN nm (plainNode F B)).1 (-1) w' ∧ RcpW w' w.heap.size w'.heap.size v (recN nm (plainNode F B)).2 ∧ Below w.heap.size w w' := by
  have hb0 : Below w.heap.size w (w.alloc (.cells #[.string ⟨#[]⟩, .int .i64 0, .int .u32 0, .slice none 0 0] 65)) := (Below.refl _ w).alloc (Nat.le_refl _) _
  have HWR := Lib.hid (Box4.mk' w (.string ⟨#[]⟩) (.int .i64 0) (.int .u32 0) (.slice none 0 0) 65)
  have HB0 := Lib.hid hb0
  have HN := Lib.hid (h.below hb0)
  have HS := Lib.hid (hs.below hb0)
  have hg4 : 2 < w.heap.size := World.block_lt_of_cell? w _ (hs 4 (by simp))
  have LK := fun w' (h' : ONode n fm bm F B w') => h'.files.look strRd (h.keysF hP) Tryz.underlying102 (zeroFE w') hn
  cases hgf : alGet F nm with
  | none =>
    have HE : Hid (recN nm (plainNode F B) = (5, rcpZero)) := Lib.hid (by unfold recN; rw [show alGet (plainNode F B).files nm = none by show alGet (alMap FE.r F) nm = _; rw [alGet_map, hgf]; rfl])
    rw [hgf] at LK
    simp only [Option.map_none, Option.getD_none, Option.isSome_none] at LK
    have HLK := Lib.hid LK
    clear LK hgf h hP hn hb0 hs
    have c0 := HN.out.c0
    have lk := HLK.out _ HN.out
    have hz := HB0.out.size
    go_enter Tryz.func46, Tryz.ntmps46
    go_wp2_with fail
    generalize w.alloc (.cells #[.string ⟨#[]⟩, .int .i64 0, .int .u32 0, .slice none 0 0] 65) = w1 at *
    have hb1 : Below w1.heap.size w1 (w1.alloc (.cells #[.string ByteArray.empty, .int .i64 0, .int .u32 0, .slice none 0 0] 65)) := (Below.refl _ w1).alloc (Nat.le_refl _) _
    have hbr := HWR.out.below hb1 HWR.out.lt
    have HBR := Lib.hid hbr
    obtain ⟨c0', c1, c2, c3, hf⟩ := hbr
    have f0 := hf 0
    have f1 := hf 1
    have f2 := hf 2
    have f3 := hf 3
    have hs3 : (w1.alloc (.cells #[.string ByteArray.empty, .int .i64 0, .int .u32 0, .slice none 0 0] 65)).cell? ⟨2, 0, none⟩ = some (sval a 4) := (HS.out.below hb1) 4 (by simp)
    unfold sval at hs3
    obtain ⟨d0, d1, d2, d3, _⟩ := HBR.out.set (.string ⟨#[]⟩) (.int .i64 0) (.int .u32 0) (.slice none 0 0)
    have hne : ¬ (2 = w.heap.size) := by omega
    have HB9 := Lib.hid (below_set4 (HB0.out.trans (hb1.mono HB0.out.size)) (Nat.le_refl _) (.string ⟨#[]⟩) (.int .i64 0) (.int .u32 0) (.slice none 0 0)).drew
    generalize w1.alloc (.cells #[.string ByteArray.empty, .int .i64 0, .int .u32 0, .slice none 0 0] 65) = w2 at *
    clear hf hb1 lk c0 hz
    go_region
    go_wp2
    refine bodyPost_ret (v := .tuple #[zeroV, .iface 361 (.pointer (some (a 4)))]) (by simp [results, Tryz.results46, go_sem, d0, d1, d2, d3, zeroV]) rfl ?_
    exact ⟨zeroV, _, rfl, by rw [HE.out]; exact EV.sent a _ 4 (by decide), by rw [HE.out]; exact RcpW.zero _ _ _, HB9.out⟩
  | some fe =>
    obtain ⟨hrd, hil, hgp⟩ := h.file hP hgf
    have HE : Hid (recN nm (plainNode F B) = (0, fe.r)) := Lib.hid (by unfold recN; rw [hgp])
    rw [hgf] at LK
    simp only [Option.map_some, Option.getD_some, Option.isSome_some] at LK
    unfold feV at LK
    have HLK := Lib.hid LK
    have HRD := Lib.hid (hrd.keep hb0 (Nat.le_refl _))
    obtain ⟨SA, sc, hsl⟩ : ∃ A c, fe.sl = .slice A fe.r.ids.length c := by obtain ⟨A, c, h, _⟩ := hrd; exact ⟨A, c, h⟩
    rw [hsl] at HLK HRD
    clear LK hgf h hP hn hb0 hs hrd hgp
    have c0 := HN.out.c0
    have lk := HLK.out _ HN.out
    have hz := HB0.out.size
    go_enter Tryz.func46, Tryz.ntmps46
    go_wp2_with fail
    have HZ1 : Hid ((w.alloc (.cells #[.string ⟨#[]⟩, .int .i64 0, .int .u32 0, .slice none 0 0] 65)).heap.size = w.heap.size + 1) := Lib.hid (by simp)
    generalize w.alloc (.cells #[.string ⟨#[]⟩, .int .i64 0, .int .u32 0, .slice none 0 0] 65) = w1 at *
    have hb1 : Below w1.heap.size w1 (w1.alloc (.cells #[VT fe.r.name, .int .i64 fe.r.len, .int .u32 (fe.r.print : Int), .slice SA fe.r.ids.length sc] 65)) := (Below.refl _ w1).alloc (Nat.le_refl _) _
    have HX2 := Lib.hid (Box4.mk' w1 (VT fe.r.name) (.int .i64 fe.r.len) (.int .u32 (fe.r.print : Int)) (.slice SA fe.r.ids.length sc) 65)
    have HWR2 := Lib.hid (HWR.out.below hb1 HWR.out.lt)
    have HB2 := Lib.hid (HB0.out.trans (hb1.mono HB0.out.size))
    have HCL := Lib.hid (ClnI_any (.slice SA fe.r.ids.length sc) fe.r.ids (by omega) (w1.alloc (.cells #[VT fe.r.name, .int .i64 fe.r.len, .int .u32 (fe.r.print : Int), .slice SA fe.r.ids.length sc] 65)) ((HRD.out.keep (hb1.mono hz) (Nat.le_refl _)).more (Nat.le_trans hz hb1.size)))
    have hz1 : w1.heap.size = w.heap.size + 1 := HZ1.out
    rw [hz1] at HX2
    have hz2 : (w1.alloc (.cells #[VT fe.r.name, .int .i64 fe.r.len, .int .u32 (fe.r.print : Int), .slice SA fe.r.ids.length sc] 65)).heap.size = w.heap.size + 2 := by simp [hz1]
    generalize w1.alloc (.cells #[VT fe.r.name, .int .i64 fe.r.len, .int .u32 (fe.r.print : Int), .slice SA fe.r.ids.length sc] 65) = w2 at *
    obtain ⟨e0, e1, e2, e3, _⟩ := HX2.out
    clear hb1 lk c0
    go_wp2_with fail
    refine HCL.out.mono ?_
    rintro e w3 ⟨v3, rfl, hrd3, hb3⟩
    obtain ⟨A3, c3', hv3⟩ : ∃ A c, v3 = .slice A fe.r.ids.length c := by obtain ⟨A, c, h, _⟩ := hrd3; exact ⟨A, c, h⟩
    subst hv3
    have HX3 := Lib.hid (HX2.out.below hb3 HX2.out.lt)
    have HW3 := Lib.hid (HWR2.out.below hb3 HWR2.out.lt)
    have HB3 := Lib.hid (HB2.out.trans (hb3.mono HB2.out.size))
    have HX4 := Lib.hid (HX3.out.set3 (.slice A3 fe.r.ids.length c3'))
    have HW4 := Lib.hid (HW3.out.setF (j := 3) (show w.heap.size ≠ w.heap.size + 1 by omega) (.slice A3 fe.r.ids.length c3'))
    have HP : Hid (RcpW ((((((w3.setCell ⟨w.heap.size + 1, 3, none⟩ (.slice A3 fe.r.ids.length c3')).setCell ⟨w.heap.size, 0, none⟩ (VT fe.r.name)).setCell ⟨w.heap.size, 1, none⟩ (.int .i64 fe.r.len)).setCell ⟨w.heap.size, 2, none⟩ (.int .u32 (fe.r.print : Int))).setCell ⟨w.heap.size, 3, none⟩ (.slice A3 fe.r.ids.length c3'))) w.heap.size w3.heap.size (.agg #[VT fe.r.name, .int .i64 fe.r.len, .int .u32 (fe.r.print : Int), (.slice A3 fe.r.ids.length c3')]) fe.r) := Lib.hid
      ⟨_, rfl, hrd3.keep (fun p h1 h2 => (cell_set4 _ _ _ _ _ (by omega)).trans (World.cell?_setCell_other _ _ _ _ (by intro e; rw [← e] at h1; simp only at h1; omega))) (by omega) (Nat.le_refl _)⟩
    have hz9 := size_set4 (w3.setCell ⟨w.heap.size + 1, 3, none⟩ (.slice A3 fe.r.ids.length c3')) w.heap.size (VT fe.r.name) (.int .i64 fe.r.len) (.int .u32 (fe.r.print : Int)) (.slice A3 fe.r.ids.length c3')
    have hz9' : (w3.setCell ⟨w.heap.size + 1, 3, none⟩ (.slice A3 fe.r.ids.length c3')).heap.size = w3.heap.size := by simp [World.setCell]
    rw [hz9'] at hz9
    have HZ9 := Lib.hid hz9
    have HB9 := Lib.hid (below_set4 (HB3.out.setCell (p := ⟨w.heap.size + 1, 3, none⟩) (Nat.le_succ _) (.slice A3 fe.r.ids.length c3')) (Nat.le_refl _) (VT fe.r.name) (.int .i64 fe.r.len) (.int .u32 (fe.r.print : Int)) (.slice A3 fe.r.ids.length c3'))
    obtain ⟨d0, d1, d2, d3, _⟩ := HW4.out.set (VT fe.r.name) (.int .i64 fe.r.len) (.int .u32 (fe.r.print : Int)) (.slice A3 fe.r.ids.length c3')
    obtain ⟨g0, g1, g2, g3, gf⟩ := HX3.out
    have gf3 := gf 3
    obtain ⟨k0, k1, k2, k3, kf⟩ := HX4.out
    obtain ⟨m0, m1, m2, m3, mf⟩ := HW4.out
    have f0 := mf 0
    have f1 := mf 1
    have f2 := mf 2
    have f3 := mf 3
    clear gf kf mf hrd3 hb3 e0 e1 e2 e3 hz9 hz9'
    go_wp2
    refine bodyPost_ret (v := .tuple #[.agg #[VT fe.r.name, .int .i64 fe.r.len, .int .u32 (fe.r.print : Int), (.slice A3 fe.r.ids.length c3')], .nilIface]) (by simp [results, Tryz.results46, go_sem, d0, d1, d2, d3]) rfl ?_
    exact ⟨_, _, rfl, by rw [HE.out]; exact EV.none a _, by rw [HE.out, HZ9.out]; exact HP.out, HB9.out⟩
/-! ### getting -/
theorem rcpB_of {nm s : Bytes} (hn : isName nm = true) (hs : s.length ≤ 4000) : RcpB (rcpOf nm s) where
  n := by have := isName_le hn; show nm.length ≤ _; omega
  l0 := by show (-9223372036854775808 : Int) ≤ ((s.length : Nat) : Int); omega
  l1 := by show ((s.length : Nat) : Int) ≤ _; omega
  p := prOf_lt _
  c := by have := idsOf_le hs; show (idsOf s).length ≤ _; omega
  i := fun x hx => by
    obtain ⟨p, hp, rfl⟩ := List.mem_map.1 hx
    have := (idOf_ok0 (pieces_max s p hp)).1
    exact ⟨this.1, this.2.1, this.2.2⟩
def GetPost (a : Nat → Addr) (q : Bytes × Int) (w : World) (e : Ending) (w' : World) : Prop := ∃ r, e = .returned (.tuple #[VT q.1, r]) ∧ ES a r q.2 ∧ Below w.heap.size w w'
end Go.Proofs.YtpanoplcamdnkaaGreatDoor
